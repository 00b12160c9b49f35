/- The law AccumulatorUnique: it returns true. The law AccumulatorUnique: the ways that end in the examples. The law AccumulatorUnique: the loop. The law AccumulatorUnique: it returns true. -/
import Derived.Test.YtlppcnjaacbhpaaGreatDoorTm1
import Derived.Test.YtlppcnjaacbhpaaGreatDoorUm2
import Derived.Deep.RegionHeld3
import Derived.Laws.Rows
namespace Go.Proofs.YtlppcnjaacbhpaaGreatDoor
open Go.RowKit
set_option maxRecDepth 100000
set_option linter.unusedVariables false
set_option maxHeartbeats 4000000

def shortS (hd m o u0 p q : ByteArray) : Bool := fewKeyS m o u0 && (decide (p.size ≤ 8) && (decide (q.size ≤ 8) && decide (hd.size ≤ 7)))
theorem law35_short (a0 a1 a2 a3 a4 a5 a6 a7 a8 a9 a10 a11 a13 a14 a15 a16 kn z s r h : Value) (hd m o u0 p q : ByteArray) (w : World) :
    Calls Tryz.prog 15 #[.agg #[a0, a1, a2, a3, a4, a5, a6, a7, a8, a9, a10, a11, .string hd, a13, a14, a15, a16, kn, .string m, .string o, z, s, r, .string u0, h, .string p, .string q]] w fun e w' => e = .returned (.bool (shortS hd m o u0 p q)) ∧ Below w.heap.size w w' := by
  have hr : shortS hd m o u0 p q = (fewKeyS m o u0 && (decide (p.size ≤ 8) && (decide (q.size ≤ 8) && decide (hd.size ≤ 7)))) := rfl
  have HR := Lib.hid hr
  have hfk := fun w => law35_FewKey kn z s r h m o u0 w
  have F0 := Lib.hid (show Below w.heap.size w (w.alloc (.cells #[a0, a1, a2, a3, a4, a5, a6, a7, a8, a9, a10, a11, .string hd, a13, a14, a15, a16, kn, .string m, .string o, z, s, r, .string u0, h, .string p, .string q] 49)) from (Below.refl _ _).alloc (Nat.le_refl _) _)
  clear hr
  have main : ∀ b1 b2 b3 b4 : Bool, fewKeyS m o u0 = b1 → decide (p.size ≤ 8) = b2 → decide (q.size ≤ 8) = b3 → decide (hd.size ≤ 7) = b4 →
      Calls Tryz.prog 15 #[.agg #[a0, a1, a2, a3, a4, a5, a6, a7, a8, a9, a10, a11, .string hd, a13, a14, a15, a16, kn, .string m, .string o, z, s, r, .string u0, h, .string p, .string q]] w fun e w' => e = .returned (.bool (shortS hd m o u0 p q)) ∧ Below w.heap.size w w' := by
    intro b1 b2 b3 b4 h1 h2 h3 h4
    rw [h1] at hfk HR
    rw [h2, h3, h4] at HR
    have k2 : decide ((p.size : Int) ≤ 8) = b2 := by rw [← h2]; exact decide_eq_decide.2 (by omega)
    have k3 : decide ((q.size : Int) ≤ 8) = b3 := by rw [← h3]; exact decide_eq_decide.2 (by omega)
    have k4 : decide ((hd.size : Int) ≤ 7) = b4 := by rw [← h4]; exact decide_eq_decide.2 (by omega)
    have HFK := Lib.hid hfk
    clear hfk h1 h2 h3 h4
    cases b1 <;> cases b2 <;> cases b3 <;> cases b4
    all_goals
      go_enter Tryz.func15, Tryz.ntmps15
      go_wp2_with (go_at_call 7; (with_reducible refine (HFK.out _).mono ?_); rintro e w1 ⟨rfl, hb1⟩; have c25 : w1.cell? ⟨w.heap.size, 25, none⟩ = some (.string p) := (hb1.cell (p := ⟨w.heap.size, 25, none⟩) (by simp)).trans (by simp [go_sem]); have c26 : w1.cell? ⟨w.heap.size, 26, none⟩ = some (.string q) := (hb1.cell (p := ⟨w.heap.size, 26, none⟩) (by simp)).trans (by simp [go_sem]); have c12 : w1.cell? ⟨w.heap.size, 12, none⟩ = some (.string hd) := (hb1.cell (p := ⟨w.heap.size, 12, none⟩) (by simp)).trans (by simp [go_sem]))
      go_ret
      exact ⟨ret_bool (by rw [HR.out]; rfl), below2 F0.out hb1⟩
  exact main _ _ _ _ rfl rfl rfl rfl
/-- The boxes of the law's arguments. -/
structure SecAt (w : World) (a0 a1 a2 a3 a4 a5 a6 a7 a8 a9 a10 a11 a13 a14 a15 a16 kn z s r h : Value) (hd m o u0 p q : ByteArray) (acc u wv : ByteArray) (wx : World) : Prop where
  blk : wx.heap[w.heap.size]? = some (.cells #[a0, a1, a2, a3, a4, a5, a6, a7, a8, a9, a10, a11, .string hd, a13, a14, a15, a16, kn, .string m, .string o, z, s, r, .string u0, h, .string p, .string q] 49 (0, 0))
  blk2 : wx.heap[w.heap.size + 1]? = some (.cells #[.string acc, .string u, .string wv] 51 (0, 0))
  tab : Tab wx
  below : Below w.heap.size w wx
  size : w.heap.size + 1 < wx.heap.size
section
variable {w wx w' : World} {a0 a1 a2 a3 a4 a5 a6 a7 a8 a9 a10 a11 a13 a14 a15 a16 kn z s r h : Value} {hd m o u0 p q : ByteArray} {acc u wv : ByteArray}
theorem SecAt.next (k : SecAt w a0 a1 a2 a3 a4 a5 a6 a7 a8 a9 a10 a11 a13 a14 a15 a16 kn z s r h hd m o u0 p q acc u wv wx) (hb : Below wx.heap.size wx w') : SecAt w a0 a1 a2 a3 a4 a5 a6 a7 a8 a9 a10 a11 a13 a14 a15 a16 kn z s r h hd m o u0 p q acc u wv w' :=
  ⟨(hb.block _ (by have := k.size; omega)).trans k.blk, (hb.block _ k.size).trans k.blk2, k.tab.below hb, below2 k.below hb, Nat.lt_of_lt_of_le k.size hb.size⟩
theorem SecAt.drew (k : SecAt w a0 a1 a2 a3 a4 a5 a6 a7 a8 a9 a10 a11 a13 a14 a15 a16 kn z s r h hd m o u0 p q acc u wv wx) : SecAt w a0 a1 a2 a3 a4 a5 a6 a7 a8 a9 a10 a11 a13 a14 a15 a16 kn z s r h hd m o u0 p q acc u wv wx.drew := k.next ((Below.refl _ _).drew)
theorem SecAt.box (hT : Tab w) : SecAt w a0 a1 a2 a3 a4 a5 a6 a7 a8 a9 a10 a11 a13 a14 a15 a16 kn z s r h hd m o u0 p q acc u wv ((w.alloc (.cells #[a0, a1, a2, a3, a4, a5, a6, a7, a8, a9, a10, a11, .string hd, a13, a14, a15, a16, kn, .string m, .string o, z, s, r, .string u0, h, .string p, .string q] 49)).alloc (.cells #[.string acc, .string u, .string wv] 51)) :=
  ⟨(two_boxes w _ _).1, (two_boxes w _ _).2, (hT.alloc _).alloc _, ((Below.refl _ _).alloc (Nat.le_refl _) _).alloc (by simp) _, by simp⟩
theorem SecAt.all (k : SecAt w a0 a1 a2 a3 a4 a5 a6 a7 a8 a9 a10 a11 a13 a14 a15 a16 kn z s r h hd m o u0 p q acc u wv wx) : wx.cell? ⟨w.heap.size, 17, none⟩ = some (kn) ∧ wx.cell? ⟨w.heap.size, 18, none⟩ = some (.string m) ∧ wx.cell? ⟨w.heap.size, 19, none⟩ = some (.string o) ∧ wx.cell? ⟨w.heap.size, 20, none⟩ = some (z) ∧ wx.cell? ⟨w.heap.size, 21, none⟩ = some (s) ∧ wx.cell? ⟨w.heap.size, 22, none⟩ = some (r) ∧ wx.cell? ⟨w.heap.size, 23, none⟩ = some (.string u0) ∧ wx.cell? ⟨w.heap.size, 24, none⟩ = some (h) ∧ wx.cell? ⟨w.heap.size, 25, none⟩ = some (.string p) ∧ wx.cell? ⟨w.heap.size, 26, none⟩ = some (.string q) ∧ wx.cell? ⟨w.heap.size + 1, 0, none⟩ = some (.string acc) ∧ wx.cell? ⟨w.heap.size + 1, 1, none⟩ = some (.string u) :=
  ⟨cell_of_row wx _ 17 _ _ _ k.blk, cell_of_row wx _ 18 _ _ _ k.blk, cell_of_row wx _ 19 _ _ _ k.blk, cell_of_row wx _ 20 _ _ _ k.blk, cell_of_row wx _ 21 _ _ _ k.blk, cell_of_row wx _ 22 _ _ _ k.blk, cell_of_row wx _ 23 _ _ _ k.blk, cell_of_row wx _ 24 _ _ _ k.blk, cell_of_row wx _ 25 _ _ _ k.blk, cell_of_row wx _ 26 _ _ _ k.blk, cell_of_row wx _ 0 _ _ _ k.blk2, cell_of_row wx _ 1 _ _ _ k.blk2⟩
end

end Go.Proofs.YtlppcnjaacbhpaaGreatDoor

namespace Go.Proofs.YtlppcnjaacbhpaaGreatDoor
open Go.RowKit
set_option maxRecDepth 100000
set_option linter.unusedVariables false
set_option maxHeartbeats 1000000

theorem info27 : (Tryz.prog.info? 49).map (·.size) = some 27 := by kernel_rfl
theorem uq_short (a0 a1 a2 a3 a4 a5 a6 a7 a8 a9 a10 a11 a13 a14 a15 a16 kn z s r h : Value) (hd m o u0 p q : ByteArray) (acc u wv : ByteArray) (w : World) (N : Nat) (ok : Bool) (HB : Hid (SecAt w a0 a1 a2 a3 a4 a5 a6 a7 a8 a9 a10 a11 a13 a14 a15 a16 kn z s r h hd m o u0 p q acc u wv ((w.alloc (.cells #[a0, a1, a2, a3, a4, a5, a6, a7, a8, a9, a10, a11, .string hd, a13, a14, a15, a16, kn, .string m, .string o, z, s, r, .string u0, h, .string p, .string q] 49)).alloc (.cells #[.string acc, .string u, .string wv] 51)))) (HSM : Hid (∀ w, Calls Tryz.prog 14 #[.string m] w fun e w' => e = .returned (.tuple #[.int .u64 N, .bool ok]) ∧ w = w')) (HSH : Hid (∀ w, Calls Tryz.prog 15 #[.agg #[a0, a1, a2, a3, a4, a5, a6, a7, a8, a9, a10, a11, .string hd, a13, a14, a15, a16, kn, .string m, .string o, z, s, r, .string u0, h, .string p, .string q]] w fun e w' => e = .returned (.bool false) ∧ Below w.heap.size w w')) :
    Calls Tryz.prog 5 #[.agg #[a0, a1, a2, a3, a4, a5, a6, a7, a8, a9, a10, a11, .string hd, a13, a14, a15, a16, kn, .string m, .string o, z, s, r, .string u0, h, .string p, .string q], .agg #[.string acc, .string u, .string wv]] w fun e w' => e = .returned (.bool true) ∧ Below w.heap.size w w' := by
  have HAW := Lib.hid law35_awake
  obtain ⟨x17, x18, x19, x20, x21, x22, x23, x24, x25, x26, e0, e1⟩ := HB.out.all
  cases ok
  all_goals
    go_enter Tryz.func5, Tryz.ntmps5
    go_wp2_with (first | (go_at_call 14; (with_reducible refine (HSM.out _).mono ?_); rintro e w' ⟨rfl, rfl⟩) | (refine wpList_load_row rfl 49 _ rfl w.heap.size rfl _ _ _ _ HB.out.blk Tryz.underlying49 rfl (info27.trans rfl) ?_) | (go_at_call 15; (with_reducible refine (HSH.out _).mono ?_); rintro e w1 ⟨rfl, hb1⟩; have n1 := HB.out.next hb1; obtain ⟨x17, x18, x19, x20, x21, x22, x23, x24, x25, x26, e0, e1⟩ := n1.all; have H1 := Lib.hid n1; clear n1 hb1) | (go_at_call 9; (with_reducible refine (HAW.out _ H1.out.tab).mono ?_); rintro e wz ⟨rfl, hbz⟩))
    go_ret
    exact ⟨rfl, (H1.out.next hbz).below⟩
theorem uq_ok (a0 a1 a2 a3 a4 a5 a6 a7 a8 a9 a10 a11 a13 a14 a15 a16 kn z s r h : Value) (hd m o u0 p q : ByteArray) (acc u wv : ByteArray) (w : World) (N : Nat) (HB : Hid (SecAt w a0 a1 a2 a3 a4 a5 a6 a7 a8 a9 a10 a11 a13 a14 a15 a16 kn z s r h hd m o u0 p q acc u wv ((w.alloc (.cells #[a0, a1, a2, a3, a4, a5, a6, a7, a8, a9, a10, a11, .string hd, a13, a14, a15, a16, kn, .string m, .string o, z, s, r, .string u0, h, .string p, .string q] 49)).alloc (.cells #[.string acc, .string u, .string wv] 51)))) (HSM : Hid (∀ w, Calls Tryz.prog 14 #[.string m] w fun e w' => e = .returned (.tuple #[.int .u64 N, .bool false]) ∧ w = w')) (HSH : Hid (∀ w, Calls Tryz.prog 15 #[.agg #[a0, a1, a2, a3, a4, a5, a6, a7, a8, a9, a10, a11, .string hd, a13, a14, a15, a16, kn, .string m, .string o, z, s, r, .string u0, h, .string p, .string q]] w fun e w' => e = .returned (.bool true) ∧ Below w.heap.size w w')) :
    Calls Tryz.prog 5 #[.agg #[a0, a1, a2, a3, a4, a5, a6, a7, a8, a9, a10, a11, .string hd, a13, a14, a15, a16, kn, .string m, .string o, z, s, r, .string u0, h, .string p, .string q], .agg #[.string acc, .string u, .string wv]] w fun e w' => e = .returned (.bool true) ∧ Below w.heap.size w w' := by
  have HAW := Lib.hid law35_awake
  obtain ⟨x17, x18, x19, x20, x21, x22, x23, x24, x25, x26, e0, e1⟩ := HB.out.all
  go_enter Tryz.func5, Tryz.ntmps5
  go_wp2_with (first | (go_at_call 14; (with_reducible refine (HSM.out _).mono ?_); rintro e w' ⟨rfl, rfl⟩) | (refine wpList_load_row rfl 49 _ rfl w.heap.size rfl _ _ _ _ HB.out.blk Tryz.underlying49 rfl (info27.trans rfl) ?_) | (go_at_call 15; (with_reducible refine (HSH.out _).mono ?_); rintro e w1 ⟨rfl, hb1⟩; have n1 := HB.out.next hb1; obtain ⟨x17, x18, x19, x20, x21, x22, x23, x24, x25, x26, e0, e1⟩ := n1.all; have H1 := Lib.hid n1; clear n1 hb1) | (go_at_call 9; (with_reducible refine (HAW.out _ H1.out.tab).mono ?_); rintro e wz ⟨rfl, hbz⟩))
  go_ret
  exact ⟨rfl, (H1.out.next hbz).below⟩
theorem uq_700 (a0 a1 a2 a3 a4 a5 a6 a7 a8 a9 a10 a11 a13 a14 a15 a16 kn z s r h : Value) (hd m o u0 p q : ByteArray) (acc u wv : ByteArray) (w : World) (N : Nat) (HB : Hid (SecAt w a0 a1 a2 a3 a4 a5 a6 a7 a8 a9 a10 a11 a13 a14 a15 a16 kn z s r h hd m o u0 p q acc u wv ((w.alloc (.cells #[a0, a1, a2, a3, a4, a5, a6, a7, a8, a9, a10, a11, .string hd, a13, a14, a15, a16, kn, .string m, .string o, z, s, r, .string u0, h, .string p, .string q] 49)).alloc (.cells #[.string acc, .string u, .string wv] 51)))) (HSM : Hid (∀ w, Calls Tryz.prog 14 #[.string m] w fun e w' => e = .returned (.tuple #[.int .u64 N, .bool true]) ∧ w = w')) (HSH : Hid (∀ w, Calls Tryz.prog 15 #[.agg #[a0, a1, a2, a3, a4, a5, a6, a7, a8, a9, a10, a11, .string hd, a13, a14, a15, a16, kn, .string m, .string o, z, s, r, .string u0, h, .string p, .string q]] w fun e w' => e = .returned (.bool true) ∧ Below w.heap.size w w')) (k7 : decide ((700 : Int) < (N : Int)) = true) :
    Calls Tryz.prog 5 #[.agg #[a0, a1, a2, a3, a4, a5, a6, a7, a8, a9, a10, a11, .string hd, a13, a14, a15, a16, kn, .string m, .string o, z, s, r, .string u0, h, .string p, .string q], .agg #[.string acc, .string u, .string wv]] w fun e w' => e = .returned (.bool true) ∧ Below w.heap.size w w' := by
  have HAW := Lib.hid law35_awake
  obtain ⟨x17, x18, x19, x20, x21, x22, x23, x24, x25, x26, e0, e1⟩ := HB.out.all
  go_enter Tryz.func5, Tryz.ntmps5
  go_wp2_with (first | (go_at_call 14; (with_reducible refine (HSM.out _).mono ?_); rintro e w' ⟨rfl, rfl⟩) | (refine wpList_load_row rfl 49 _ rfl w.heap.size rfl _ _ _ _ HB.out.blk Tryz.underlying49 rfl (info27.trans rfl) ?_) | (go_at_call 15; (with_reducible refine (HSH.out _).mono ?_); rintro e w1 ⟨rfl, hb1⟩; have n1 := HB.out.next hb1; obtain ⟨x17, x18, x19, x20, x21, x22, x23, x24, x25, x26, e0, e1⟩ := n1.all; have H1 := Lib.hid n1; clear n1 hb1) | (go_at_call 9; (with_reducible refine (HAW.out _ H1.out.tab).mono ?_); rintro e wz ⟨rfl, hbz⟩))
  go_ret
  exact ⟨rfl, (H1.out.next hbz).below⟩
theorem uq_12 (a0 a1 a2 a3 a4 a5 a6 a7 a8 a9 a10 a11 a13 a14 a15 a16 kn z s r h : Value) (hd m o u0 p q : ByteArray) (acc u wv : ByteArray) (w : World) (N : Nat) (HB : Hid (SecAt w a0 a1 a2 a3 a4 a5 a6 a7 a8 a9 a10 a11 a13 a14 a15 a16 kn z s r h hd m o u0 p q acc u wv ((w.alloc (.cells #[a0, a1, a2, a3, a4, a5, a6, a7, a8, a9, a10, a11, .string hd, a13, a14, a15, a16, kn, .string m, .string o, z, s, r, .string u0, h, .string p, .string q] 49)).alloc (.cells #[.string acc, .string u, .string wv] 51)))) (HSM : Hid (∀ w, Calls Tryz.prog 14 #[.string m] w fun e w' => e = .returned (.tuple #[.int .u64 N, .bool true]) ∧ w = w')) (HSH : Hid (∀ w, Calls Tryz.prog 15 #[.agg #[a0, a1, a2, a3, a4, a5, a6, a7, a8, a9, a10, a11, .string hd, a13, a14, a15, a16, kn, .string m, .string o, z, s, r, .string u0, h, .string p, .string q]] w fun e w' => e = .returned (.bool true) ∧ Below w.heap.size w w')) (k7 : decide ((700 : Int) < (N : Int)) = false) (k12 : decide ((12 : Int) < (acc.size : Int)) = true) :
    Calls Tryz.prog 5 #[.agg #[a0, a1, a2, a3, a4, a5, a6, a7, a8, a9, a10, a11, .string hd, a13, a14, a15, a16, kn, .string m, .string o, z, s, r, .string u0, h, .string p, .string q], .agg #[.string acc, .string u, .string wv]] w fun e w' => e = .returned (.bool true) ∧ Below w.heap.size w w' := by
  have HAW := Lib.hid law35_awake
  obtain ⟨x17, x18, x19, x20, x21, x22, x23, x24, x25, x26, e0, e1⟩ := HB.out.all
  go_enter Tryz.func5, Tryz.ntmps5
  go_wp2_with (first | (go_at_call 14; (with_reducible refine (HSM.out _).mono ?_); rintro e w' ⟨rfl, rfl⟩) | (refine wpList_load_row rfl 49 _ rfl w.heap.size rfl _ _ _ _ HB.out.blk Tryz.underlying49 rfl (info27.trans rfl) ?_) | (go_at_call 15; (with_reducible refine (HSH.out _).mono ?_); rintro e w1 ⟨rfl, hb1⟩; have n1 := HB.out.next hb1; obtain ⟨x17, x18, x19, x20, x21, x22, x23, x24, x25, x26, e0, e1⟩ := n1.all; have H1 := Lib.hid n1; clear n1 hb1) | (go_at_call 9; (with_reducible refine (HAW.out _ H1.out.tab).mono ?_); rintro e wz ⟨rfl, hbz⟩))
  go_ret
  exact ⟨rfl, (H1.out.next hbz).below⟩
theorem uq_8 (a0 a1 a2 a3 a4 a5 a6 a7 a8 a9 a10 a11 a13 a14 a15 a16 kn z s r h : Value) (hd m o u0 p q : ByteArray) (acc u wv : ByteArray) (w : World) (N : Nat) (HB : Hid (SecAt w a0 a1 a2 a3 a4 a5 a6 a7 a8 a9 a10 a11 a13 a14 a15 a16 kn z s r h hd m o u0 p q acc u wv ((w.alloc (.cells #[a0, a1, a2, a3, a4, a5, a6, a7, a8, a9, a10, a11, .string hd, a13, a14, a15, a16, kn, .string m, .string o, z, s, r, .string u0, h, .string p, .string q] 49)).alloc (.cells #[.string acc, .string u, .string wv] 51)))) (HSM : Hid (∀ w, Calls Tryz.prog 14 #[.string m] w fun e w' => e = .returned (.tuple #[.int .u64 N, .bool true]) ∧ w = w')) (HSH : Hid (∀ w, Calls Tryz.prog 15 #[.agg #[a0, a1, a2, a3, a4, a5, a6, a7, a8, a9, a10, a11, .string hd, a13, a14, a15, a16, kn, .string m, .string o, z, s, r, .string u0, h, .string p, .string q]] w fun e w' => e = .returned (.bool true) ∧ Below w.heap.size w w')) (k7 : decide ((700 : Int) < (N : Int)) = false) (k12 : decide ((12 : Int) < (acc.size : Int)) = false) (k8 : decide ((8 : Int) < (u.size : Int)) = true) :
    Calls Tryz.prog 5 #[.agg #[a0, a1, a2, a3, a4, a5, a6, a7, a8, a9, a10, a11, .string hd, a13, a14, a15, a16, kn, .string m, .string o, z, s, r, .string u0, h, .string p, .string q], .agg #[.string acc, .string u, .string wv]] w fun e w' => e = .returned (.bool true) ∧ Below w.heap.size w w' := by
  have HAW := Lib.hid law35_awake
  obtain ⟨x17, x18, x19, x20, x21, x22, x23, x24, x25, x26, e0, e1⟩ := HB.out.all
  go_enter Tryz.func5, Tryz.ntmps5
  go_wp2_with (first | (go_at_call 14; (with_reducible refine (HSM.out _).mono ?_); rintro e w' ⟨rfl, rfl⟩) | (refine wpList_load_row rfl 49 _ rfl w.heap.size rfl _ _ _ _ HB.out.blk Tryz.underlying49 rfl (info27.trans rfl) ?_) | (go_at_call 15; (with_reducible refine (HSH.out _).mono ?_); rintro e w1 ⟨rfl, hb1⟩; have n1 := HB.out.next hb1; obtain ⟨x17, x18, x19, x20, x21, x22, x23, x24, x25, x26, e0, e1⟩ := n1.all; have H1 := Lib.hid n1; clear n1 hb1) | (go_at_call 9; (with_reducible refine (HAW.out _ H1.out.tab).mono ?_); rintro e wz ⟨rfl, hbz⟩))
  go_ret
  exact ⟨rfl, (H1.out.next hbz).below⟩
theorem uq_se (a0 a1 a2 a3 a4 a5 a6 a7 a8 a9 a10 a11 a13 a14 a15 a16 kn z s r h : Value) (hd m o u0 p q : ByteArray) (acc u wv : ByteArray) (w : World) (N : Nat) (HB : Hid (SecAt w a0 a1 a2 a3 a4 a5 a6 a7 a8 a9 a10 a11 a13 a14 a15 a16 kn z s r h hd m o u0 p q acc u wv ((w.alloc (.cells #[a0, a1, a2, a3, a4, a5, a6, a7, a8, a9, a10, a11, .string hd, a13, a14, a15, a16, kn, .string m, .string o, z, s, r, .string u0, h, .string p, .string q] 49)).alloc (.cells #[.string acc, .string u, .string wv] 51)))) (HSM : Hid (∀ w, Calls Tryz.prog 14 #[.string m] w fun e w' => e = .returned (.tuple #[.int .u64 N, .bool true]) ∧ w = w')) (HSH : Hid (∀ w, Calls Tryz.prog 15 #[.agg #[a0, a1, a2, a3, a4, a5, a6, a7, a8, a9, a10, a11, .string hd, a13, a14, a15, a16, kn, .string m, .string o, z, s, r, .string u0, h, .string p, .string q]] w fun e w' => e = .returned (.bool true) ∧ Below w.heap.size w w')) (k7 : decide ((700 : Int) < (N : Int)) = false) (k12 : decide ((12 : Int) < (acc.size : Int)) = false) (k8 : decide ((8 : Int) < (u.size : Int)) = false) (sm : m.size ≤ 8) (sq : Bool) (se oe ge : Int) (om gm : ByteArray) (HSQ : Hid (∀ w, Calls Tryz.prog 16 #[.agg #[.string m, .string o], .agg #[.string p, .string q], .string acc] w fun e w' => e = .returned (.tuple #[.bool sq, .int .i64 se]) ∧ Below w.heap.size w w')) (HOR : Hid (∀ w, Calls Tryz.prog 17 #[.agg #[.string p, .string q]] w fun e w' => e = .returned (.tuple #[.string om, .int .i64 oe]) ∧ Below w.heap.size w w')) (HGC : Hid (∀ w, Calls Tryz.prog 18 #[.string u, .string om] w fun e w' => e = .returned (.tuple #[.string gm, .int .i64 ge]) ∧ Below w.heap.size w w')) (kb : (se != 0) = true) :
    Calls Tryz.prog 5 #[.agg #[a0, a1, a2, a3, a4, a5, a6, a7, a8, a9, a10, a11, .string hd, a13, a14, a15, a16, kn, .string m, .string o, z, s, r, .string u0, h, .string p, .string q], .agg #[.string acc, .string u, .string wv]] w fun e w' => e = .returned (.bool true) ∧ Below w.heap.size w w' := by
  have HAW := Lib.hid law35_awake
  obtain ⟨x17, x18, x19, x20, x21, x22, x23, x24, x25, x26, e0, e1⟩ := HB.out.all
  go_enter Tryz.func5, Tryz.ntmps5
  go_wp2_with (first | (go_at_call 14; (with_reducible refine (HSM.out _).mono ?_); rintro e w' ⟨rfl, rfl⟩) | (refine wpList_load_row rfl 49 _ rfl w.heap.size rfl _ _ _ _ HB.out.blk Tryz.underlying49 rfl (info27.trans rfl) ?_) | (go_at_call 15; (with_reducible refine (HSH.out _).mono ?_); rintro e w1 ⟨rfl, hb1⟩; have n1 := HB.out.next hb1; obtain ⟨x17, x18, x19, x20, x21, x22, x23, x24, x25, x26, e0, e1⟩ := n1.all; have H1 := Lib.hid n1; clear n1 hb1) | (go_at_call 16; (with_reducible refine (HSQ.out _).mono ?_); rintro e w2 ⟨rfl, hb2⟩; have n2 := H1.out.next hb2; obtain ⟨x17, x18, x19, x20, x21, x22, x23, x24, x25, x26, e0, e1⟩ := n2.all; have H2 := Lib.hid n2; clear n2 hb2) | (go_at_call 17; (with_reducible refine (HOR.out _).mono ?_); rintro e w3 ⟨rfl, hb3⟩; have n3 := H2.out.next hb3; obtain ⟨x17, x18, x19, x20, x21, x22, x23, x24, x25, x26, e0, e1⟩ := n3.all; have H3 := Lib.hid n3; clear n3 hb3) | (go_at_call 18; (with_reducible refine (HGC.out _).mono ?_); rintro e w4 ⟨rfl, hb4⟩; have n4 := H3.out.next hb4; obtain ⟨x17, x18, x19, x20, x21, x22, x23, x24, x25, x26, e0, e1⟩ := n4.all; have H4 := Lib.hid n4; clear n4 hb4) | (go_at_call 9; (with_reducible refine (HAW.out _ H4.out.tab).mono ?_); rintro e wz ⟨rfl, hbz⟩))
  go_ret
  exact ⟨rfl, (H4.out.next hbz).below⟩
theorem uq_oe (a0 a1 a2 a3 a4 a5 a6 a7 a8 a9 a10 a11 a13 a14 a15 a16 kn z s r h : Value) (hd m o u0 p q : ByteArray) (acc u wv : ByteArray) (w : World) (N : Nat) (HB : Hid (SecAt w a0 a1 a2 a3 a4 a5 a6 a7 a8 a9 a10 a11 a13 a14 a15 a16 kn z s r h hd m o u0 p q acc u wv ((w.alloc (.cells #[a0, a1, a2, a3, a4, a5, a6, a7, a8, a9, a10, a11, .string hd, a13, a14, a15, a16, kn, .string m, .string o, z, s, r, .string u0, h, .string p, .string q] 49)).alloc (.cells #[.string acc, .string u, .string wv] 51)))) (HSM : Hid (∀ w, Calls Tryz.prog 14 #[.string m] w fun e w' => e = .returned (.tuple #[.int .u64 N, .bool true]) ∧ w = w')) (HSH : Hid (∀ w, Calls Tryz.prog 15 #[.agg #[a0, a1, a2, a3, a4, a5, a6, a7, a8, a9, a10, a11, .string hd, a13, a14, a15, a16, kn, .string m, .string o, z, s, r, .string u0, h, .string p, .string q]] w fun e w' => e = .returned (.bool true) ∧ Below w.heap.size w w')) (k7 : decide ((700 : Int) < (N : Int)) = false) (k12 : decide ((12 : Int) < (acc.size : Int)) = false) (k8 : decide ((8 : Int) < (u.size : Int)) = false) (sm : m.size ≤ 8) (sq : Bool) (se oe ge : Int) (om gm : ByteArray) (HSQ : Hid (∀ w, Calls Tryz.prog 16 #[.agg #[.string m, .string o], .agg #[.string p, .string q], .string acc] w fun e w' => e = .returned (.tuple #[.bool sq, .int .i64 0]) ∧ Below w.heap.size w w')) (HOR : Hid (∀ w, Calls Tryz.prog 17 #[.agg #[.string p, .string q]] w fun e w' => e = .returned (.tuple #[.string om, .int .i64 oe]) ∧ Below w.heap.size w w')) (HGC : Hid (∀ w, Calls Tryz.prog 18 #[.string u, .string om] w fun e w' => e = .returned (.tuple #[.string gm, .int .i64 ge]) ∧ Below w.heap.size w w')) (kb : (oe != 0) = true) :
    Calls Tryz.prog 5 #[.agg #[a0, a1, a2, a3, a4, a5, a6, a7, a8, a9, a10, a11, .string hd, a13, a14, a15, a16, kn, .string m, .string o, z, s, r, .string u0, h, .string p, .string q], .agg #[.string acc, .string u, .string wv]] w fun e w' => e = .returned (.bool true) ∧ Below w.heap.size w w' := by
  have HAW := Lib.hid law35_awake
  obtain ⟨x17, x18, x19, x20, x21, x22, x23, x24, x25, x26, e0, e1⟩ := HB.out.all
  go_enter Tryz.func5, Tryz.ntmps5
  go_wp2_with (first | (go_at_call 14; (with_reducible refine (HSM.out _).mono ?_); rintro e w' ⟨rfl, rfl⟩) | (refine wpList_load_row rfl 49 _ rfl w.heap.size rfl _ _ _ _ HB.out.blk Tryz.underlying49 rfl (info27.trans rfl) ?_) | (go_at_call 15; (with_reducible refine (HSH.out _).mono ?_); rintro e w1 ⟨rfl, hb1⟩; have n1 := HB.out.next hb1; obtain ⟨x17, x18, x19, x20, x21, x22, x23, x24, x25, x26, e0, e1⟩ := n1.all; have H1 := Lib.hid n1; clear n1 hb1) | (go_at_call 16; (with_reducible refine (HSQ.out _).mono ?_); rintro e w2 ⟨rfl, hb2⟩; have n2 := H1.out.next hb2; obtain ⟨x17, x18, x19, x20, x21, x22, x23, x24, x25, x26, e0, e1⟩ := n2.all; have H2 := Lib.hid n2; clear n2 hb2) | (go_at_call 17; (with_reducible refine (HOR.out _).mono ?_); rintro e w3 ⟨rfl, hb3⟩; have n3 := H2.out.next hb3; obtain ⟨x17, x18, x19, x20, x21, x22, x23, x24, x25, x26, e0, e1⟩ := n3.all; have H3 := Lib.hid n3; clear n3 hb3) | (go_at_call 18; (with_reducible refine (HGC.out _).mono ?_); rintro e w4 ⟨rfl, hb4⟩; have n4 := H3.out.next hb4; obtain ⟨x17, x18, x19, x20, x21, x22, x23, x24, x25, x26, e0, e1⟩ := n4.all; have H4 := Lib.hid n4; clear n4 hb4) | (go_at_call 9; (with_reducible refine (HAW.out _ H4.out.tab).mono ?_); rintro e wz ⟨rfl, hbz⟩))
  go_ret
  exact ⟨rfl, (H4.out.next hbz).below⟩
theorem uq_ge (a0 a1 a2 a3 a4 a5 a6 a7 a8 a9 a10 a11 a13 a14 a15 a16 kn z s r h : Value) (hd m o u0 p q : ByteArray) (acc u wv : ByteArray) (w : World) (N : Nat) (HB : Hid (SecAt w a0 a1 a2 a3 a4 a5 a6 a7 a8 a9 a10 a11 a13 a14 a15 a16 kn z s r h hd m o u0 p q acc u wv ((w.alloc (.cells #[a0, a1, a2, a3, a4, a5, a6, a7, a8, a9, a10, a11, .string hd, a13, a14, a15, a16, kn, .string m, .string o, z, s, r, .string u0, h, .string p, .string q] 49)).alloc (.cells #[.string acc, .string u, .string wv] 51)))) (HSM : Hid (∀ w, Calls Tryz.prog 14 #[.string m] w fun e w' => e = .returned (.tuple #[.int .u64 N, .bool true]) ∧ w = w')) (HSH : Hid (∀ w, Calls Tryz.prog 15 #[.agg #[a0, a1, a2, a3, a4, a5, a6, a7, a8, a9, a10, a11, .string hd, a13, a14, a15, a16, kn, .string m, .string o, z, s, r, .string u0, h, .string p, .string q]] w fun e w' => e = .returned (.bool true) ∧ Below w.heap.size w w')) (k7 : decide ((700 : Int) < (N : Int)) = false) (k12 : decide ((12 : Int) < (acc.size : Int)) = false) (k8 : decide ((8 : Int) < (u.size : Int)) = false) (sm : m.size ≤ 8) (sq : Bool) (se oe ge : Int) (om gm : ByteArray) (HSQ : Hid (∀ w, Calls Tryz.prog 16 #[.agg #[.string m, .string o], .agg #[.string p, .string q], .string acc] w fun e w' => e = .returned (.tuple #[.bool sq, .int .i64 0]) ∧ Below w.heap.size w w')) (HOR : Hid (∀ w, Calls Tryz.prog 17 #[.agg #[.string p, .string q]] w fun e w' => e = .returned (.tuple #[.string om, .int .i64 0]) ∧ Below w.heap.size w w')) (HGC : Hid (∀ w, Calls Tryz.prog 18 #[.string u, .string om] w fun e w' => e = .returned (.tuple #[.string gm, .int .i64 ge]) ∧ Below w.heap.size w w')) (kb : (ge != 0) = true) :
    Calls Tryz.prog 5 #[.agg #[a0, a1, a2, a3, a4, a5, a6, a7, a8, a9, a10, a11, .string hd, a13, a14, a15, a16, kn, .string m, .string o, z, s, r, .string u0, h, .string p, .string q], .agg #[.string acc, .string u, .string wv]] w fun e w' => e = .returned (.bool true) ∧ Below w.heap.size w w' := by
  have HAW := Lib.hid law35_awake
  obtain ⟨x17, x18, x19, x20, x21, x22, x23, x24, x25, x26, e0, e1⟩ := HB.out.all
  go_enter Tryz.func5, Tryz.ntmps5
  go_wp2_with (first | (go_at_call 14; (with_reducible refine (HSM.out _).mono ?_); rintro e w' ⟨rfl, rfl⟩) | (refine wpList_load_row rfl 49 _ rfl w.heap.size rfl _ _ _ _ HB.out.blk Tryz.underlying49 rfl (info27.trans rfl) ?_) | (go_at_call 15; (with_reducible refine (HSH.out _).mono ?_); rintro e w1 ⟨rfl, hb1⟩; have n1 := HB.out.next hb1; obtain ⟨x17, x18, x19, x20, x21, x22, x23, x24, x25, x26, e0, e1⟩ := n1.all; have H1 := Lib.hid n1; clear n1 hb1) | (go_at_call 16; (with_reducible refine (HSQ.out _).mono ?_); rintro e w2 ⟨rfl, hb2⟩; have n2 := H1.out.next hb2; obtain ⟨x17, x18, x19, x20, x21, x22, x23, x24, x25, x26, e0, e1⟩ := n2.all; have H2 := Lib.hid n2; clear n2 hb2) | (go_at_call 17; (with_reducible refine (HOR.out _).mono ?_); rintro e w3 ⟨rfl, hb3⟩; have n3 := H2.out.next hb3; obtain ⟨x17, x18, x19, x20, x21, x22, x23, x24, x25, x26, e0, e1⟩ := n3.all; have H3 := Lib.hid n3; clear n3 hb3) | (go_at_call 18; (with_reducible refine (HGC.out _).mono ?_); rintro e w4 ⟨rfl, hb4⟩; have n4 := H3.out.next hb4; obtain ⟨x17, x18, x19, x20, x21, x22, x23, x24, x25, x26, e0, e1⟩ := n4.all; have H4 := Lib.hid n4; clear n4 hb4) | (go_at_call 9; (with_reducible refine (HAW.out _ H4.out.tab).mono ?_); rintro e wz ⟨rfl, hbz⟩))
  go_ret
  exact ⟨rfl, (H4.out.next hbz).below⟩
theorem uq_sq (a0 a1 a2 a3 a4 a5 a6 a7 a8 a9 a10 a11 a13 a14 a15 a16 kn z s r h : Value) (hd m o u0 p q : ByteArray) (acc u wv : ByteArray) (w : World) (N : Nat) (HB : Hid (SecAt w a0 a1 a2 a3 a4 a5 a6 a7 a8 a9 a10 a11 a13 a14 a15 a16 kn z s r h hd m o u0 p q acc u wv ((w.alloc (.cells #[a0, a1, a2, a3, a4, a5, a6, a7, a8, a9, a10, a11, .string hd, a13, a14, a15, a16, kn, .string m, .string o, z, s, r, .string u0, h, .string p, .string q] 49)).alloc (.cells #[.string acc, .string u, .string wv] 51)))) (HSM : Hid (∀ w, Calls Tryz.prog 14 #[.string m] w fun e w' => e = .returned (.tuple #[.int .u64 N, .bool true]) ∧ w = w')) (HSH : Hid (∀ w, Calls Tryz.prog 15 #[.agg #[a0, a1, a2, a3, a4, a5, a6, a7, a8, a9, a10, a11, .string hd, a13, a14, a15, a16, kn, .string m, .string o, z, s, r, .string u0, h, .string p, .string q]] w fun e w' => e = .returned (.bool true) ∧ Below w.heap.size w w')) (k7 : decide ((700 : Int) < (N : Int)) = false) (k12 : decide ((12 : Int) < (acc.size : Int)) = false) (k8 : decide ((8 : Int) < (u.size : Int)) = false) (sm : m.size ≤ 8) (sq : Bool) (se oe ge : Int) (om gm : ByteArray) (HSQ : Hid (∀ w, Calls Tryz.prog 16 #[.agg #[.string m, .string o], .agg #[.string p, .string q], .string acc] w fun e w' => e = .returned (.tuple #[.bool false, .int .i64 0]) ∧ Below w.heap.size w w')) (HOR : Hid (∀ w, Calls Tryz.prog 17 #[.agg #[.string p, .string q]] w fun e w' => e = .returned (.tuple #[.string om, .int .i64 0]) ∧ Below w.heap.size w w')) (HGC : Hid (∀ w, Calls Tryz.prog 18 #[.string u, .string om] w fun e w' => e = .returned (.tuple #[.string gm, .int .i64 0]) ∧ Below w.heap.size w w')) :
    Calls Tryz.prog 5 #[.agg #[a0, a1, a2, a3, a4, a5, a6, a7, a8, a9, a10, a11, .string hd, a13, a14, a15, a16, kn, .string m, .string o, z, s, r, .string u0, h, .string p, .string q], .agg #[.string acc, .string u, .string wv]] w fun e w' => e = .returned (.bool true) ∧ Below w.heap.size w w' := by
  have HAW := Lib.hid law35_awake
  obtain ⟨x17, x18, x19, x20, x21, x22, x23, x24, x25, x26, e0, e1⟩ := HB.out.all
  go_enter Tryz.func5, Tryz.ntmps5
  go_wp2_with (first | (go_at_call 14; (with_reducible refine (HSM.out _).mono ?_); rintro e w' ⟨rfl, rfl⟩) | (refine wpList_load_row rfl 49 _ rfl w.heap.size rfl _ _ _ _ HB.out.blk Tryz.underlying49 rfl (info27.trans rfl) ?_) | (go_at_call 15; (with_reducible refine (HSH.out _).mono ?_); rintro e w1 ⟨rfl, hb1⟩; have n1 := HB.out.next hb1; obtain ⟨x17, x18, x19, x20, x21, x22, x23, x24, x25, x26, e0, e1⟩ := n1.all; have H1 := Lib.hid n1; clear n1 hb1) | (go_at_call 16; (with_reducible refine (HSQ.out _).mono ?_); rintro e w2 ⟨rfl, hb2⟩; have n2 := H1.out.next hb2; obtain ⟨x17, x18, x19, x20, x21, x22, x23, x24, x25, x26, e0, e1⟩ := n2.all; have H2 := Lib.hid n2; clear n2 hb2) | (go_at_call 17; (with_reducible refine (HOR.out _).mono ?_); rintro e w3 ⟨rfl, hb3⟩; have n3 := H2.out.next hb3; obtain ⟨x17, x18, x19, x20, x21, x22, x23, x24, x25, x26, e0, e1⟩ := n3.all; have H3 := Lib.hid n3; clear n3 hb3) | (go_at_call 18; (with_reducible refine (HGC.out _).mono ?_); rintro e w4 ⟨rfl, hb4⟩; have n4 := H3.out.next hb4; obtain ⟨x17, x18, x19, x20, x21, x22, x23, x24, x25, x26, e0, e1⟩ := n4.all; have H4 := Lib.hid n4; clear n4 hb4) | (go_at_call 9; (with_reducible refine (HAW.out _ H4.out.tab).mono ?_); rintro e wz ⟨rfl, hbz⟩))
  go_ret
  exact ⟨rfl, (H4.out.next hbz).below⟩
theorem uq_g (a0 a1 a2 a3 a4 a5 a6 a7 a8 a9 a10 a11 a13 a14 a15 a16 kn z s r h : Value) (hd m o u0 p q : ByteArray) (acc u wv : ByteArray) (w : World) (N : Nat) (HB : Hid (SecAt w a0 a1 a2 a3 a4 a5 a6 a7 a8 a9 a10 a11 a13 a14 a15 a16 kn z s r h hd m o u0 p q acc u wv ((w.alloc (.cells #[a0, a1, a2, a3, a4, a5, a6, a7, a8, a9, a10, a11, .string hd, a13, a14, a15, a16, kn, .string m, .string o, z, s, r, .string u0, h, .string p, .string q] 49)).alloc (.cells #[.string acc, .string u, .string wv] 51)))) (HSM : Hid (∀ w, Calls Tryz.prog 14 #[.string m] w fun e w' => e = .returned (.tuple #[.int .u64 N, .bool true]) ∧ w = w')) (HSH : Hid (∀ w, Calls Tryz.prog 15 #[.agg #[a0, a1, a2, a3, a4, a5, a6, a7, a8, a9, a10, a11, .string hd, a13, a14, a15, a16, kn, .string m, .string o, z, s, r, .string u0, h, .string p, .string q]] w fun e w' => e = .returned (.bool true) ∧ Below w.heap.size w w')) (k7 : decide ((700 : Int) < (N : Int)) = false) (k12 : decide ((12 : Int) < (acc.size : Int)) = false) (k8 : decide ((8 : Int) < (u.size : Int)) = false) (sm : m.size ≤ 8) (sq : Bool) (se oe ge : Int) (om gm : ByteArray) (HSQ : Hid (∀ w, Calls Tryz.prog 16 #[.agg #[.string m, .string o], .agg #[.string p, .string q], .string acc] w fun e w' => e = .returned (.tuple #[.bool true, .int .i64 0]) ∧ Below w.heap.size w w')) (HOR : Hid (∀ w, Calls Tryz.prog 17 #[.agg #[.string p, .string q]] w fun e w' => e = .returned (.tuple #[.string om, .int .i64 0]) ∧ Below w.heap.size w w')) (HGC : Hid (∀ w, Calls Tryz.prog 18 #[.string u, .string om] w fun e w' => e = .returned (.tuple #[.string gm, .int .i64 0]) ∧ Below w.heap.size w w')) (b5 : (gm.toList == (B 1).toList) = false) :
    Calls Tryz.prog 5 #[.agg #[a0, a1, a2, a3, a4, a5, a6, a7, a8, a9, a10, a11, .string hd, a13, a14, a15, a16, kn, .string m, .string o, z, s, r, .string u0, h, .string p, .string q], .agg #[.string acc, .string u, .string wv]] w fun e w' => e = .returned (.bool true) ∧ Below w.heap.size w w' := by
  have HAW := Lib.hid law35_awake
  obtain ⟨x17, x18, x19, x20, x21, x22, x23, x24, x25, x26, e0, e1⟩ := HB.out.all
  go_enter Tryz.func5, Tryz.ntmps5
  go_wp2_with (first | (go_at_call 14; (with_reducible refine (HSM.out _).mono ?_); rintro e w' ⟨rfl, rfl⟩) | (refine wpList_load_row rfl 49 _ rfl w.heap.size rfl _ _ _ _ HB.out.blk Tryz.underlying49 rfl (info27.trans rfl) ?_) | (go_at_call 15; (with_reducible refine (HSH.out _).mono ?_); rintro e w1 ⟨rfl, hb1⟩; have n1 := HB.out.next hb1; obtain ⟨x17, x18, x19, x20, x21, x22, x23, x24, x25, x26, e0, e1⟩ := n1.all; have H1 := Lib.hid n1; clear n1 hb1) | (go_at_call 16; (with_reducible refine (HSQ.out _).mono ?_); rintro e w2 ⟨rfl, hb2⟩; have n2 := H1.out.next hb2; obtain ⟨x17, x18, x19, x20, x21, x22, x23, x24, x25, x26, e0, e1⟩ := n2.all; have H2 := Lib.hid n2; clear n2 hb2) | (go_at_call 17; (with_reducible refine (HOR.out _).mono ?_); rintro e w3 ⟨rfl, hb3⟩; have n3 := H2.out.next hb3; obtain ⟨x17, x18, x19, x20, x21, x22, x23, x24, x25, x26, e0, e1⟩ := n3.all; have H3 := Lib.hid n3; clear n3 hb3) | (go_at_call 18; (with_reducible refine (HGC.out _).mono ?_); rintro e w4 ⟨rfl, hb4⟩; have n4 := H3.out.next hb4; obtain ⟨x17, x18, x19, x20, x21, x22, x23, x24, x25, x26, e0, e1⟩ := n4.all; have H4 := Lib.hid n4; clear n4 hb4) | (go_at_call 19; (with_reducible refine (law35_num 1 1 _ rfl (by decide)).mono ?_); rintro e w5 ⟨rfl, hb5⟩; have n5 := H4.out.next hb5; obtain ⟨x17, x18, x19, x20, x21, x22, x23, x24, x25, x26, e0, e1⟩ := n5.all; have H5 := Lib.hid n5; clear n5 hb5) | (go_at_call 9; (with_reducible refine (HAW.out _ H5.out.tab).mono ?_); rintro e wz ⟨rfl, hbz⟩))
  go_ret
  exact ⟨rfl, (H5.out.next hbz).below⟩
theorem uq_u (a0 a1 a2 a3 a4 a5 a6 a7 a8 a9 a10 a11 a13 a14 a15 a16 kn z s r h : Value) (hd m o u0 p q : ByteArray) (acc u wv : ByteArray) (w : World) (N : Nat) (HB : Hid (SecAt w a0 a1 a2 a3 a4 a5 a6 a7 a8 a9 a10 a11 a13 a14 a15 a16 kn z s r h hd m o u0 p q acc u wv ((w.alloc (.cells #[a0, a1, a2, a3, a4, a5, a6, a7, a8, a9, a10, a11, .string hd, a13, a14, a15, a16, kn, .string m, .string o, z, s, r, .string u0, h, .string p, .string q] 49)).alloc (.cells #[.string acc, .string u, .string wv] 51)))) (HSM : Hid (∀ w, Calls Tryz.prog 14 #[.string m] w fun e w' => e = .returned (.tuple #[.int .u64 N, .bool true]) ∧ w = w')) (HSH : Hid (∀ w, Calls Tryz.prog 15 #[.agg #[a0, a1, a2, a3, a4, a5, a6, a7, a8, a9, a10, a11, .string hd, a13, a14, a15, a16, kn, .string m, .string o, z, s, r, .string u0, h, .string p, .string q]] w fun e w' => e = .returned (.bool true) ∧ Below w.heap.size w w')) (k7 : decide ((700 : Int) < (N : Int)) = false) (k12 : decide ((12 : Int) < (acc.size : Int)) = false) (k8 : decide ((8 : Int) < (u.size : Int)) = false) (sm : m.size ≤ 8) (sq : Bool) (se oe ge : Int) (om gm : ByteArray) (HSQ : Hid (∀ w, Calls Tryz.prog 16 #[.agg #[.string m, .string o], .agg #[.string p, .string q], .string acc] w fun e w' => e = .returned (.tuple #[.bool true, .int .i64 0]) ∧ Below w.heap.size w w')) (HOR : Hid (∀ w, Calls Tryz.prog 17 #[.agg #[.string p, .string q]] w fun e w' => e = .returned (.tuple #[.string om, .int .i64 0]) ∧ Below w.heap.size w w')) (HGC : Hid (∀ w, Calls Tryz.prog 18 #[.string u, .string om] w fun e w' => e = .returned (.tuple #[.string gm, .int .i64 0]) ∧ Below w.heap.size w w')) (b5 : (gm.toList == (B 1).toList) = true) (b6 : u.toList.isEmpty = true) :
    Calls Tryz.prog 5 #[.agg #[a0, a1, a2, a3, a4, a5, a6, a7, a8, a9, a10, a11, .string hd, a13, a14, a15, a16, kn, .string m, .string o, z, s, r, .string u0, h, .string p, .string q], .agg #[.string acc, .string u, .string wv]] w fun e w' => e = .returned (.bool true) ∧ Below w.heap.size w w' := by
  have HAW := Lib.hid law35_awake
  obtain ⟨x17, x18, x19, x20, x21, x22, x23, x24, x25, x26, e0, e1⟩ := HB.out.all
  go_enter Tryz.func5, Tryz.ntmps5
  go_wp2_with (first | (go_at_call 14; (with_reducible refine (HSM.out _).mono ?_); rintro e w' ⟨rfl, rfl⟩) | (refine wpList_load_row rfl 49 _ rfl w.heap.size rfl _ _ _ _ HB.out.blk Tryz.underlying49 rfl (info27.trans rfl) ?_) | (go_at_call 15; (with_reducible refine (HSH.out _).mono ?_); rintro e w1 ⟨rfl, hb1⟩; have n1 := HB.out.next hb1; obtain ⟨x17, x18, x19, x20, x21, x22, x23, x24, x25, x26, e0, e1⟩ := n1.all; have H1 := Lib.hid n1; clear n1 hb1) | (go_at_call 16; (with_reducible refine (HSQ.out _).mono ?_); rintro e w2 ⟨rfl, hb2⟩; have n2 := H1.out.next hb2; obtain ⟨x17, x18, x19, x20, x21, x22, x23, x24, x25, x26, e0, e1⟩ := n2.all; have H2 := Lib.hid n2; clear n2 hb2) | (go_at_call 17; (with_reducible refine (HOR.out _).mono ?_); rintro e w3 ⟨rfl, hb3⟩; have n3 := H2.out.next hb3; obtain ⟨x17, x18, x19, x20, x21, x22, x23, x24, x25, x26, e0, e1⟩ := n3.all; have H3 := Lib.hid n3; clear n3 hb3) | (go_at_call 18; (with_reducible refine (HGC.out _).mono ?_); rintro e w4 ⟨rfl, hb4⟩; have n4 := H3.out.next hb4; obtain ⟨x17, x18, x19, x20, x21, x22, x23, x24, x25, x26, e0, e1⟩ := n4.all; have H4 := Lib.hid n4; clear n4 hb4) | (go_at_call 19; (with_reducible refine (law35_num 1 1 _ rfl (by decide)).mono ?_); rintro e w5 ⟨rfl, hb5⟩; have n5 := H4.out.next hb5; obtain ⟨x17, x18, x19, x20, x21, x22, x23, x24, x25, x26, e0, e1⟩ := n5.all; have H5 := Lib.hid n5; clear n5 hb5) | (go_at_call 9; (with_reducible refine (HAW.out _ H5.out.tab).mono ?_); rintro e wz ⟨rfl, hbz⟩))
  go_ret
  exact ⟨rfl, (H5.out.next hbz).below⟩

end Go.Proofs.YtlppcnjaacbhpaaGreatDoor

namespace Go.Proofs.YtlppcnjaacbhpaaGreatDoor
open Go.RowKit
set_option maxRecDepth 100000
set_option linter.unusedVariables false
set_option maxHeartbeats 4000000

def uniqB (m o p q acc u : ByteArray) (k : Nat) : Bool := decide (1 ≤ k) && (decide ((isEulS m o p q (B k)).2 = 0) && ((isEulS m o p q (B k)).1 && decide (checkAS m o acc u (B k) = 0)))
theorem uq_main (a0 a1 a2 a3 a4 a5 a6 a7 a8 a9 a10 a11 a13 a14 a15 a16 kn z s r h : Value) (hd m o u0 p q : ByteArray) (acc u wv : ByteArray) (w : World) (N : Nat) (HB : Hid (SecAt w a0 a1 a2 a3 a4 a5 a6 a7 a8 a9 a10 a11 a13 a14 a15 a16 kn z s r h hd m o u0 p q acc u wv ((w.alloc (.cells #[a0, a1, a2, a3, a4, a5, a6, a7, a8, a9, a10, a11, .string hd, a13, a14, a15, a16, kn, .string m, .string o, z, s, r, .string u0, h, .string p, .string q] 49)).alloc (.cells #[.string acc, .string u, .string wv] 51)))) (HSM : Hid (∀ w, Calls Tryz.prog 14 #[.string m] w fun e w' => e = .returned (.tuple #[.int .u64 N, .bool true]) ∧ w = w')) (HSH : Hid (∀ w, Calls Tryz.prog 15 #[.agg #[a0, a1, a2, a3, a4, a5, a6, a7, a8, a9, a10, a11, .string hd, a13, a14, a15, a16, kn, .string m, .string o, z, s, r, .string u0, h, .string p, .string q]] w fun e w' => e = .returned (.bool true) ∧ Below w.heap.size w w')) (k7 : decide ((700 : Int) < (N : Int)) = false) (k12 : decide ((12 : Int) < (acc.size : Int)) = false) (k8 : decide ((8 : Int) < (u.size : Int)) = false) (sm : m.size ≤ 8) (sq : Bool) (se oe ge : Int) (om gm : ByteArray) (HSQ : Hid (∀ w, Calls Tryz.prog 16 #[.agg #[.string m, .string o], .agg #[.string p, .string q], .string acc] w fun e w' => e = .returned (.tuple #[.bool true, .int .i64 0]) ∧ Below w.heap.size w w')) (HOR : Hid (∀ w, Calls Tryz.prog 17 #[.agg #[.string p, .string q]] w fun e w' => e = .returned (.tuple #[.string om, .int .i64 0]) ∧ Below w.heap.size w w')) (HGC : Hid (∀ w, Calls Tryz.prog 18 #[.string u, .string om] w fun e w' => e = .returned (.tuple #[.string gm, .int .i64 0]) ∧ Below w.heap.size w w')) (b5 : (gm.toList == (B 1).toList) = true) (b6 : u.toList.isEmpty = false) (hone : cntP (uniqB m o p q acc u) N = 1) (hn1 : 1 ≤ N) :
    Calls Tryz.prog 5 #[.agg #[a0, a1, a2, a3, a4, a5, a6, a7, a8, a9, a10, a11, .string hd, a13, a14, a15, a16, kn, .string m, .string o, z, s, r, .string u0, h, .string p, .string q], .agg #[.string acc, .string u, .string wv]] w fun e w' => e = .returned (.bool true) ∧ Below w.heap.size w w' := by
  have HAW := Lib.hid law35_awake
  obtain ⟨x17, x18, x19, x20, x21, x22, x23, x24, x25, x26, e0, e1⟩ := HB.out.all
  have HONE := Lib.hid hone
  have HN1 := Lib.hid hn1
  have HNUMA := Lib.hid (fun (k : Nat) w (hk : k < 18446744073709551616) => law35_num (k : Int) k w rfl hk)
  have HISA := Lib.hid (fun (k : Nat) w => r10_IsSquare m o p q (B k) w sm)
  have HCHA := Lib.hid (fun (k : Nat) w => acc_Check kn z s r h m o u0 acc u (B k) w sm)
  have hN700 : (N : Int) ≤ 700 := by
    have := of_decide_eq_false k7
    omega
  clear hone hn1
  go_enter Tryz.func5, Tryz.ntmps5
  go_wp2_with (first | (go_at_call 14; (with_reducible refine (HSM.out _).mono ?_); rintro e w' ⟨rfl, rfl⟩) | (refine wpList_load_row rfl 49 _ rfl w.heap.size rfl _ _ _ _ HB.out.blk Tryz.underlying49 rfl (info27.trans rfl) ?_) | (go_at_call 15; (with_reducible refine (HSH.out _).mono ?_); rintro e w1 ⟨rfl, hb1⟩; have n1 := HB.out.next hb1; obtain ⟨x17, x18, x19, x20, x21, x22, x23, x24, x25, x26, e0, e1⟩ := n1.all; have H1 := Lib.hid n1; clear n1 hb1) | (go_at_call 16; (with_reducible refine (HSQ.out _).mono ?_); rintro e w2 ⟨rfl, hb2⟩; have n2 := H1.out.next hb2; obtain ⟨x17, x18, x19, x20, x21, x22, x23, x24, x25, x26, e0, e1⟩ := n2.all; have H2 := Lib.hid n2; clear n2 hb2) | (go_at_call 17; (with_reducible refine (HOR.out _).mono ?_); rintro e w3 ⟨rfl, hb3⟩; have n3 := H2.out.next hb3; obtain ⟨x17, x18, x19, x20, x21, x22, x23, x24, x25, x26, e0, e1⟩ := n3.all; have H3 := Lib.hid n3; clear n3 hb3) | (go_at_call 18; (with_reducible refine (HGC.out _).mono ?_); rintro e w4 ⟨rfl, hb4⟩; have n4 := H3.out.next hb4; obtain ⟨x17, x18, x19, x20, x21, x22, x23, x24, x25, x26, e0, e1⟩ := n4.all; have H4 := Lib.hid n4; clear n4 hb4) | (go_at_call 19; (with_reducible refine (law35_num 1 1 _ rfl (by decide)).mono ?_); rintro e w5 ⟨rfl, hb5⟩; have n5 := H4.out.next hb5; obtain ⟨x17, x18, x19, x20, x21, x22, x23, x24, x25, x26, e0, e1⟩ := n5.all; have H5 := Lib.hid n5; clear n5 hb5))
  go_loopw [13, 14] (fun v13 v14 wr => ∃ (k c : Nat), v13 = .int .i64 c ∧ v14 = .int .u64 k ∧ 1 ≤ k ∧ k ≤ N ∧ c = cntP (uniqB m o p q acc u) k ∧ SecAt w a0 a1 a2 a3 a4 a5 a6 a7 a8 a9 a10 a11 a13 a14 a15 a16 kn z s r h hd m o u0 p q acc u wv wr) (fun _ v14 _ => N - (intOf v14).toNat)
  case atStart => exact ⟨1, 0, rfl, rfl, Nat.le_refl _, HN1.out, by simp [cntP, uniqB], H5.out⟩
  case round =>
    obtain ⟨k, c, rfl, rfl, hk1, hk, hc, hsec⟩ := hrel
    have HC := Lib.hid hc
    have HK := Lib.hid hsec
    obtain ⟨x17, x18, x19, x20, x21, x22, x23, x24, x25, x26, e0, e1⟩ := hsec.all
    have HCL := Lib.hid (show c ≤ k by rw [hc]; exact cntP_le _ _)
    have hcl : (c : Int) ≤ 700 := by have := HCL.out; omega
    clear hc hsec
    by_cases hlt : k < N
    · have HNUM := Lib.hid (fun w => HNUMA.out k w (by omega))
      have his := HISA.out k
      have hch := HCHA.out k
      have hcs : cntP (uniqB m o p q acc u) (k + 1) = cntP (uniqB m o p q acc u) k + if uniqB m o p q acc u k then 1 else 0 := rfl
      have hub : uniqB m o p q acc u k = (decide ((isEulS m o p q (B k)).2 = 0) && ((isEulS m o p q (B k)).1 && decide (checkAS m o acc u (B k) = 0))) := by unfold uniqB; rw [decide_eq_true hk1]; rfl
      rw [← HC.out, hub] at hcs
      obtain ⟨sq, hsqv⟩ : ∃ sq, (isEulS m o p q (B k)).1 = sq := ⟨_, rfl⟩
      obtain ⟨se, hsev⟩ : ∃ se, (isEulS m o p q (B k)).2 = se := ⟨_, rfl⟩
      obtain ⟨ck, hckv⟩ : ∃ ck, checkAS m o acc u (B k) = ck := ⟨_, rfl⟩
      rw [hsqv, hsev] at his
      rw [hsqv, hsev, hckv] at hcs
      rw [hckv] at hch
      have HIS := Lib.hid his
      have HCH := Lib.hid hch
      have HCS := Lib.hid hcs
      have HLT := Lib.hid hlt
      clear his hch hcs hub hsqv hsev hckv
      by_cases f1 : se = 0
      · subst f1
        cases sq
        · have HF : Hid (cntP (uniqB m o p q acc u) (k + 1) = c) := Lib.hid (by rw [HCS.out]; rfl)
          go_wp2_with fail
          go_region_held3 (fun w' => w'.cell? ⟨w.heap.size, 17, none⟩ = some (kn) ∧ w'.cell? ⟨w.heap.size, 18, none⟩ = some (.string m) ∧ w'.cell? ⟨w.heap.size, 19, none⟩ = some (.string o) ∧ w'.cell? ⟨w.heap.size, 20, none⟩ = some (z) ∧ w'.cell? ⟨w.heap.size, 21, none⟩ = some (s) ∧ w'.cell? ⟨w.heap.size, 22, none⟩ = some (r) ∧ w'.cell? ⟨w.heap.size, 23, none⟩ = some (.string u0) ∧ w'.cell? ⟨w.heap.size, 24, none⟩ = some (h) ∧ w'.cell? ⟨w.heap.size, 25, none⟩ = some (.string p) ∧ w'.cell? ⟨w.heap.size, 26, none⟩ = some (.string q) ∧ w'.cell? ⟨w.heap.size + 1, 0, none⟩ = some (.string acc) ∧ w'.cell? ⟨w.heap.size + 1, 1, none⟩ = some (.string u)) (first | go_keep) (first | (go_at_call 19; (with_reducible refine (HNUM.out _).mono ?_); rintro e wvK1 ⟨rfl, hb⟩; have n : SecAt w a0 a1 a2 a3 a4 a5 a6 a7 a8 a9 a10 a11 a13 a14 a15 a16 kn z s r h hd m o u0 p q acc u wv wvK1 := by { first | exact HK.out.next hb | exact HK.out.drew.next hb }; obtain ⟨x17, x18, x19, x20, x21, x22, x23, x24, x25, x26, e0, e1⟩ := n.all; have K1 := Lib.hid n; clear n hb) | (go_at_call 16; (with_reducible refine (HIS.out _).mono ?_); rintro e wvK2 ⟨rfl, hb⟩; have n : SecAt w a0 a1 a2 a3 a4 a5 a6 a7 a8 a9 a10 a11 a13 a14 a15 a16 kn z s r h hd m o u0 p q acc u wv wvK2 := by { first | exact K1.out.next hb | exact K1.out.drew.next hb }; obtain ⟨x17, x18, x19, x20, x21, x22, x23, x24, x25, x26, e0, e1⟩ := n.all; have K2 := Lib.hid n; clear n hb))
          all_goals
            go_wp2_with fail
            go_quiet ((fail))
            all_goals
              go_wp2_with fail
              go_roundw
              case rel => exact ⟨k + 1, c, rfl, rfl, by omega, HLT.out, HF.out.symm, K2.out.next (below_drewN (Below.refl _ _) _)⟩
              case measure => have := HLT.out; simp only [intOf]; omega
        · by_cases f2 : ck = 0
          · subst f2
            have HF : Hid (cntP (uniqB m o p q acc u) (k + 1) = c + 1) := Lib.hid (by rw [HCS.out]; rfl)
            go_wp2_with fail
            go_region_held3 (fun w' => w'.cell? ⟨w.heap.size, 17, none⟩ = some (kn) ∧ w'.cell? ⟨w.heap.size, 18, none⟩ = some (.string m) ∧ w'.cell? ⟨w.heap.size, 19, none⟩ = some (.string o) ∧ w'.cell? ⟨w.heap.size, 20, none⟩ = some (z) ∧ w'.cell? ⟨w.heap.size, 21, none⟩ = some (s) ∧ w'.cell? ⟨w.heap.size, 22, none⟩ = some (r) ∧ w'.cell? ⟨w.heap.size, 23, none⟩ = some (.string u0) ∧ w'.cell? ⟨w.heap.size, 24, none⟩ = some (h) ∧ w'.cell? ⟨w.heap.size, 25, none⟩ = some (.string p) ∧ w'.cell? ⟨w.heap.size, 26, none⟩ = some (.string q) ∧ w'.cell? ⟨w.heap.size + 1, 0, none⟩ = some (.string acc) ∧ w'.cell? ⟨w.heap.size + 1, 1, none⟩ = some (.string u)) (first | go_keep) (first | (go_at_call 19; (with_reducible refine (HNUM.out _).mono ?_); rintro e wvK1 ⟨rfl, hb⟩; have n : SecAt w a0 a1 a2 a3 a4 a5 a6 a7 a8 a9 a10 a11 a13 a14 a15 a16 kn z s r h hd m o u0 p q acc u wv wvK1 := by { first | exact HK.out.next hb | exact HK.out.drew.next hb }; obtain ⟨x17, x18, x19, x20, x21, x22, x23, x24, x25, x26, e0, e1⟩ := n.all; have K1 := Lib.hid n; clear n hb) | (go_at_call 16; (with_reducible refine (HIS.out _).mono ?_); rintro e wvK2 ⟨rfl, hb⟩; have n : SecAt w a0 a1 a2 a3 a4 a5 a6 a7 a8 a9 a10 a11 a13 a14 a15 a16 kn z s r h hd m o u0 p q acc u wv wvK2 := by { first | exact K1.out.next hb | exact K1.out.drew.next hb }; obtain ⟨x17, x18, x19, x20, x21, x22, x23, x24, x25, x26, e0, e1⟩ := n.all; have K2 := Lib.hid n; clear n hb))
            all_goals
              go_wp2_with fail
              go_region_held3 (fun w' => w'.cell? ⟨w.heap.size, 17, none⟩ = some (kn) ∧ w'.cell? ⟨w.heap.size, 18, none⟩ = some (.string m) ∧ w'.cell? ⟨w.heap.size, 19, none⟩ = some (.string o) ∧ w'.cell? ⟨w.heap.size, 20, none⟩ = some (z) ∧ w'.cell? ⟨w.heap.size, 21, none⟩ = some (s) ∧ w'.cell? ⟨w.heap.size, 22, none⟩ = some (r) ∧ w'.cell? ⟨w.heap.size, 23, none⟩ = some (.string u0) ∧ w'.cell? ⟨w.heap.size, 24, none⟩ = some (h) ∧ w'.cell? ⟨w.heap.size, 25, none⟩ = some (.string p) ∧ w'.cell? ⟨w.heap.size, 26, none⟩ = some (.string q) ∧ w'.cell? ⟨w.heap.size + 1, 0, none⟩ = some (.string acc) ∧ w'.cell? ⟨w.heap.size + 1, 1, none⟩ = some (.string u)) (first | go_keep) (first | (go_at_call 19; (with_reducible refine (HNUM.out _).mono ?_); rintro e wvK3 ⟨rfl, hb⟩; have n : SecAt w a0 a1 a2 a3 a4 a5 a6 a7 a8 a9 a10 a11 a13 a14 a15 a16 kn z s r h hd m o u0 p q acc u wv wvK3 := by { first | exact K2.out.next hb | exact K2.out.drew.next hb }; obtain ⟨x17, x18, x19, x20, x21, x22, x23, x24, x25, x26, e0, e1⟩ := n.all; have K3 := Lib.hid n; clear n hb) | (go_at_call 20; (with_reducible refine (HCH.out _).mono ?_); rintro e wvK4 ⟨rfl, hb⟩; have n : SecAt w a0 a1 a2 a3 a4 a5 a6 a7 a8 a9 a10 a11 a13 a14 a15 a16 kn z s r h hd m o u0 p q acc u wv wvK4 := by { first | exact K3.out.next hb | exact K3.out.drew.next hb }; obtain ⟨x17, x18, x19, x20, x21, x22, x23, x24, x25, x26, e0, e1⟩ := n.all; have K4 := Lib.hid n; clear n hb))
              all_goals
                go_wp2_with fail
                go_roundw
                case rel => exact ⟨k + 1, c + 1, rfl, rfl, by omega, HLT.out, HF.out.symm, K4.out⟩
                case measure => have := HLT.out; simp only [intOf]; omega
          · have kk : (ck == 0) = false := by rw [beq_eq_false_iff_ne]; exact f2
            have HF : Hid (cntP (uniqB m o p q acc u) (k + 1) = c) := Lib.hid (by rw [HCS.out, decide_eq_false f2]; rfl)
            clear f2
            go_wp2_with fail
            go_region_held3 (fun w' => w'.cell? ⟨w.heap.size, 17, none⟩ = some (kn) ∧ w'.cell? ⟨w.heap.size, 18, none⟩ = some (.string m) ∧ w'.cell? ⟨w.heap.size, 19, none⟩ = some (.string o) ∧ w'.cell? ⟨w.heap.size, 20, none⟩ = some (z) ∧ w'.cell? ⟨w.heap.size, 21, none⟩ = some (s) ∧ w'.cell? ⟨w.heap.size, 22, none⟩ = some (r) ∧ w'.cell? ⟨w.heap.size, 23, none⟩ = some (.string u0) ∧ w'.cell? ⟨w.heap.size, 24, none⟩ = some (h) ∧ w'.cell? ⟨w.heap.size, 25, none⟩ = some (.string p) ∧ w'.cell? ⟨w.heap.size, 26, none⟩ = some (.string q) ∧ w'.cell? ⟨w.heap.size + 1, 0, none⟩ = some (.string acc) ∧ w'.cell? ⟨w.heap.size + 1, 1, none⟩ = some (.string u)) (first | go_keep) (first | (go_at_call 19; (with_reducible refine (HNUM.out _).mono ?_); rintro e wvK1 ⟨rfl, hb⟩; have n : SecAt w a0 a1 a2 a3 a4 a5 a6 a7 a8 a9 a10 a11 a13 a14 a15 a16 kn z s r h hd m o u0 p q acc u wv wvK1 := by { first | exact HK.out.next hb | exact HK.out.drew.next hb }; obtain ⟨x17, x18, x19, x20, x21, x22, x23, x24, x25, x26, e0, e1⟩ := n.all; have K1 := Lib.hid n; clear n hb) | (go_at_call 16; (with_reducible refine (HIS.out _).mono ?_); rintro e wvK2 ⟨rfl, hb⟩; have n : SecAt w a0 a1 a2 a3 a4 a5 a6 a7 a8 a9 a10 a11 a13 a14 a15 a16 kn z s r h hd m o u0 p q acc u wv wvK2 := by { first | exact K1.out.next hb | exact K1.out.drew.next hb }; obtain ⟨x17, x18, x19, x20, x21, x22, x23, x24, x25, x26, e0, e1⟩ := n.all; have K2 := Lib.hid n; clear n hb))
            all_goals
              go_wp2_with fail
              go_region_held3 (fun w' => w'.cell? ⟨w.heap.size, 17, none⟩ = some (kn) ∧ w'.cell? ⟨w.heap.size, 18, none⟩ = some (.string m) ∧ w'.cell? ⟨w.heap.size, 19, none⟩ = some (.string o) ∧ w'.cell? ⟨w.heap.size, 20, none⟩ = some (z) ∧ w'.cell? ⟨w.heap.size, 21, none⟩ = some (s) ∧ w'.cell? ⟨w.heap.size, 22, none⟩ = some (r) ∧ w'.cell? ⟨w.heap.size, 23, none⟩ = some (.string u0) ∧ w'.cell? ⟨w.heap.size, 24, none⟩ = some (h) ∧ w'.cell? ⟨w.heap.size, 25, none⟩ = some (.string p) ∧ w'.cell? ⟨w.heap.size, 26, none⟩ = some (.string q) ∧ w'.cell? ⟨w.heap.size + 1, 0, none⟩ = some (.string acc) ∧ w'.cell? ⟨w.heap.size + 1, 1, none⟩ = some (.string u)) (first | go_keep) (first | (go_at_call 19; (with_reducible refine (HNUM.out _).mono ?_); rintro e wvK3 ⟨rfl, hb⟩; have n : SecAt w a0 a1 a2 a3 a4 a5 a6 a7 a8 a9 a10 a11 a13 a14 a15 a16 kn z s r h hd m o u0 p q acc u wv wvK3 := by { first | exact K2.out.next hb | exact K2.out.drew.next hb }; obtain ⟨x17, x18, x19, x20, x21, x22, x23, x24, x25, x26, e0, e1⟩ := n.all; have K3 := Lib.hid n; clear n hb) | (go_at_call 20; (with_reducible refine (HCH.out _).mono ?_); rintro e wvK4 ⟨rfl, hb⟩; have n : SecAt w a0 a1 a2 a3 a4 a5 a6 a7 a8 a9 a10 a11 a13 a14 a15 a16 kn z s r h hd m o u0 p q acc u wv wvK4 := by { first | exact K3.out.next hb | exact K3.out.drew.next hb }; obtain ⟨x17, x18, x19, x20, x21, x22, x23, x24, x25, x26, e0, e1⟩ := n.all; have K4 := Lib.hid n; clear n hb))
              all_goals
                go_wp2_with fail
                go_roundw
                case rel => exact ⟨k + 1, c, rfl, rfl, by omega, HLT.out, HF.out.symm, K4.out⟩
                case measure => have := HLT.out; simp only [intOf]; omega
      · have kk : (se == 0) = false := by rw [beq_eq_false_iff_ne]; exact f1
        have HF : Hid (cntP (uniqB m o p q acc u) (k + 1) = c) := Lib.hid (by rw [HCS.out, decide_eq_false f1]; rfl)
        clear f1
        go_wp2_with fail
        go_region_held3 (fun w' => w'.cell? ⟨w.heap.size, 17, none⟩ = some (kn) ∧ w'.cell? ⟨w.heap.size, 18, none⟩ = some (.string m) ∧ w'.cell? ⟨w.heap.size, 19, none⟩ = some (.string o) ∧ w'.cell? ⟨w.heap.size, 20, none⟩ = some (z) ∧ w'.cell? ⟨w.heap.size, 21, none⟩ = some (s) ∧ w'.cell? ⟨w.heap.size, 22, none⟩ = some (r) ∧ w'.cell? ⟨w.heap.size, 23, none⟩ = some (.string u0) ∧ w'.cell? ⟨w.heap.size, 24, none⟩ = some (h) ∧ w'.cell? ⟨w.heap.size, 25, none⟩ = some (.string p) ∧ w'.cell? ⟨w.heap.size, 26, none⟩ = some (.string q) ∧ w'.cell? ⟨w.heap.size + 1, 0, none⟩ = some (.string acc) ∧ w'.cell? ⟨w.heap.size + 1, 1, none⟩ = some (.string u)) (first | go_keep) (first | (go_at_call 19; (with_reducible refine (HNUM.out _).mono ?_); rintro e wvK1 ⟨rfl, hb⟩; have n : SecAt w a0 a1 a2 a3 a4 a5 a6 a7 a8 a9 a10 a11 a13 a14 a15 a16 kn z s r h hd m o u0 p q acc u wv wvK1 := by { first | exact HK.out.next hb | exact HK.out.drew.next hb }; obtain ⟨x17, x18, x19, x20, x21, x22, x23, x24, x25, x26, e0, e1⟩ := n.all; have K1 := Lib.hid n; clear n hb) | (go_at_call 16; (with_reducible refine (HIS.out _).mono ?_); rintro e wvK2 ⟨rfl, hb⟩; have n : SecAt w a0 a1 a2 a3 a4 a5 a6 a7 a8 a9 a10 a11 a13 a14 a15 a16 kn z s r h hd m o u0 p q acc u wv wvK2 := by { first | exact K1.out.next hb | exact K1.out.drew.next hb }; obtain ⟨x17, x18, x19, x20, x21, x22, x23, x24, x25, x26, e0, e1⟩ := n.all; have K2 := Lib.hid n; clear n hb))
        all_goals
          go_wp2_with fail
          go_quiet ((fail))
          all_goals
            go_wp2_with fail
            go_roundw
            case rel => exact ⟨k + 1, c, rfl, rfl, by omega, HLT.out, HF.out.symm, K2.out.next (below_drewN (Below.refl _ _) _)⟩
            case measure => have := HLT.out; simp only [intOf]; omega
    · have hkn : k = N := by omega
      subst hkn
      have hc1 : c = 1 := by rw [HC.out, HONE.out]
      subst hc1
      go_wp2_with (first | (go_at_call 9; (with_reducible refine (HAW.out _ HK.out.tab).mono ?_); rintro e wz ⟨rfl, hbz⟩))
      go_ret
      exact ⟨rfl, (HK.out.next hbz).below⟩

end Go.Proofs.YtlppcnjaacbhpaaGreatDoor

namespace Go.Proofs.YtlppcnjaacbhpaaGreatDoor
open Go.RowKit
set_option maxRecDepth 100000
set_option linter.unusedVariables false
set_option maxHeartbeats 4000000

theorem law_unique (a0 a1 a2 a3 a4 a5 a6 a7 a8 a9 a10 a11 a13 a14 a15 a16 kn z s r h : Value) (hd m o u0 p q : ByteArray) (acc u wv : ByteArray) (w : World) (hT : Tab w) :
    Calls Tryz.prog 5 #[.agg #[a0, a1, a2, a3, a4, a5, a6, a7, a8, a9, a10, a11, .string hd, a13, a14, a15, a16, kn, .string m, .string o, z, s, r, .string u0, h, .string p, .string q], .agg #[.string acc, .string u, .string wv]] w fun e w' => e = .returned (.bool true) ∧ Below w.heap.size w w' := by
  have HB := Lib.hid (SecAt.box (a0 := a0) (a1 := a1) (a2 := a2) (a3 := a3) (a4 := a4) (a5 := a5) (a6 := a6) (a7 := a7) (a8 := a8) (a9 := a9) (a10 := a10) (a11 := a11) (a13 := a13) (a14 := a14) (a15 := a15) (a16 := a16) (kn := kn) (z := z) (s := s) (r := r) (h := h) (hd := hd) (m := m) (o := o) (u0 := u0) (p := p) (q := q) (acc := acc) (u := u) (wv := wv) hT)
  have hsh := fun w => law35_short a0 a1 a2 a3 a4 a5 a6 a7 a8 a9 a10 a11 a13 a14 a15 a16 kn z s r h hd m o u0 p q w
  have hsm := r01_Small m
  have hss : (natSmall m).2 = true → (natSmall m).1 = num m := fun h => by
    unfold natSmall at h ⊢
    split at h
    · rename_i hh; rw [if_pos hh]
    · cases h
  obtain ⟨N, hN⟩ : ∃ N, (natSmall m).1 = N := ⟨_, rfl⟩
  obtain ⟨ok, hok⟩ : ∃ ok, (natSmall m).2 = ok := ⟨_, rfl⟩
  rw [hN, hok] at hsm hss
  have HSM := Lib.hid hsm
  cases hs : shortS hd m o u0 p q
  · rw [hs] at hsh
    exact uq_short a0 a1 a2 a3 a4 a5 a6 a7 a8 a9 a10 a11 a13 a14 a15 a16 kn z s r h hd m o u0 p q acc u wv w N ok HB HSM (Lib.hid hsh)
  have sm : m.size ≤ 8 := by
    unfold shortS fewKeyS at hs
    simp only [Bool.and_eq_true, decide_eq_true_eq] at hs
    exact hs.1.1
  rw [hs] at hsh
  have HSH := Lib.hid hsh
  cases ok
  · exact uq_ok a0 a1 a2 a3 a4 a5 a6 a7 a8 a9 a10 a11 a13 a14 a15 a16 kn z s r h hd m o u0 p q acc u wv w N HB HSM HSH
  have hnm := hss rfl
  by_cases h700 : N ≤ 700
  · have k7 : decide ((700 : Int) < (N : Int)) = false := decide_eq_false (by omega)
    by_cases h12 : acc.size ≤ 12
    · have k12 : decide ((12 : Int) < (acc.size : Int)) = false := decide_eq_false (by omega)
      by_cases h8 : u.size ≤ 8
      · have k8 : decide ((8 : Int) < (u.size : Int)) = false := decide_eq_false (by omega)
        have hsq := fun w => r10_IsSquare m o p q acc w sm
        have hor := fun w => r10_Order p q w
        have hgc := fun w => r01_Gcd2 u (orderS p q).1 w
        have huw := fun h1 h2 h3 h4 h5 h6 => unique_witness (m := m) (o := o) (p := p) (q := q) (acc := acc) (u := u) sm (by rw [← hnm]; exact h700) h1 h2 h3 h4 h5 h6
        obtain ⟨sq, hsqv⟩ : ∃ sq, (isEulS m o p q acc).1 = sq := ⟨_, rfl⟩
        obtain ⟨se, hsev⟩ : ∃ se, (isEulS m o p q acc).2 = se := ⟨_, rfl⟩
        rw [hsqv, hsev] at hsq
        rw [hsqv, hsev] at huw
        obtain ⟨og, hog⟩ : ∃ og, orderS p q = og := ⟨_, rfl⟩
        rw [hog] at hor hgc huw
        obtain ⟨gg, hgg⟩ : ∃ gg, natGcd u og.1 = gg := ⟨_, rfl⟩
        rw [hgg] at hgc huw
        obtain ⟨om, oe⟩ := og
        obtain ⟨gm, ge⟩ := gg
        dsimp only at hor hgc huw
        have HSQ := Lib.hid hsq
        have HOR := Lib.hid hor
        have HGC := Lib.hid hgc
        by_cases b1 : se = 0
        · subst b1
          by_cases b2 : oe = 0
          · subst b2
            by_cases b3 : ge = 0
            · subst b3
              cases sq
              · exact uq_sq a0 a1 a2 a3 a4 a5 a6 a7 a8 a9 a10 a11 a13 a14 a15 a16 kn z s r h hd m o u0 p q acc u wv w N HB HSM HSH k7 k12 k8 sm true 0 0 0 om gm HSQ HOR HGC
              cases b5 : (gm.toList == (B 1).toList)
              · exact uq_g a0 a1 a2 a3 a4 a5 a6 a7 a8 a9 a10 a11 a13 a14 a15 a16 kn z s r h hd m o u0 p q acc u wv w N HB HSM HSH k7 k12 k8 sm true 0 0 0 om gm HSQ HOR HGC b5
              cases b6 : u.toList.isEmpty
              · obtain ⟨w0, hw1, hw2, hw3⟩ := huw rfl rfl rfl rfl b5 b6
                have hone : cntP (uniqB m o p q acc u) N = 1 := by
                  rw [← hnm] at hw2
                  refine cntP_one hw2 (fun k hk => ?_)
                  unfold uniqB
                  simp only [Bool.and_eq_true, decide_eq_true_eq]
                  constructor
                  · rintro ⟨a, b, c, d⟩
                    exact (hw3 k a (by rw [← hnm]; exact hk)).1 ⟨b, c, d⟩
                  · rintro rfl
                    have := (hw3 k hw1 (by rw [← hnm]; exact hk)).2 rfl
                    exact ⟨hw1, this.1, this.2.1, this.2.2⟩
                exact uq_main a0 a1 a2 a3 a4 a5 a6 a7 a8 a9 a10 a11 a13 a14 a15 a16 kn z s r h hd m o u0 p q acc u wv w N HB HSM HSH k7 k12 k8 sm true 0 0 0 om gm HSQ HOR HGC b5 b6 hone (by rw [hnm]; omega)
              · exact uq_u a0 a1 a2 a3 a4 a5 a6 a7 a8 a9 a10 a11 a13 a14 a15 a16 kn z s r h hd m o u0 p q acc u wv w N HB HSM HSH k7 k12 k8 sm true 0 0 0 om gm HSQ HOR HGC b5 b6
            · exact uq_ge a0 a1 a2 a3 a4 a5 a6 a7 a8 a9 a10 a11 a13 a14 a15 a16 kn z s r h hd m o u0 p q acc u wv w N HB HSM HSH k7 k12 k8 sm sq 0 0 ge om gm HSQ HOR HGC (by rw [bne_iff_ne]; exact b3)
          · exact uq_oe a0 a1 a2 a3 a4 a5 a6 a7 a8 a9 a10 a11 a13 a14 a15 a16 kn z s r h hd m o u0 p q acc u wv w N HB HSM HSH k7 k12 k8 sm sq 0 oe ge om gm HSQ HOR HGC (by rw [bne_iff_ne]; exact b2)
        · exact uq_se a0 a1 a2 a3 a4 a5 a6 a7 a8 a9 a10 a11 a13 a14 a15 a16 kn z s r h hd m o u0 p q acc u wv w N HB HSM HSH k7 k12 k8 sm sq se oe ge om gm HSQ HOR HGC (by rw [bne_iff_ne]; exact b1)
      · exact uq_8 a0 a1 a2 a3 a4 a5 a6 a7 a8 a9 a10 a11 a13 a14 a15 a16 kn z s r h hd m o u0 p q acc u wv w N HB HSM HSH k7 k12 (decide_eq_true (by omega))
    · exact uq_12 a0 a1 a2 a3 a4 a5 a6 a7 a8 a9 a10 a11 a13 a14 a15 a16 kn z s r h hd m o u0 p q acc u wv w N HB HSM HSH k7 (decide_eq_true (by omega))
  · exact uq_700 a0 a1 a2 a3 a4 a5 a6 a7 a8 a9 a10 a11 a13 a14 a15 a16 kn z s r h hd m o u0 p q acc u wv w N HB HSM HSH (decide_eq_true (by omega))

end Go.Proofs.YtlppcnjaacbhpaaGreatDoor
