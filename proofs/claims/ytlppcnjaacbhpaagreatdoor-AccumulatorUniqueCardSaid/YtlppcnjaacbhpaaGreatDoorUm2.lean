/- The examples of the chapter on accumulators. The examples of the chapter on accumulators: the key, awake. The examples of the chapter on accumulators: Remove, awake. The law AccumulatorOrders: it returns true. -/
import Derived.Test.YtlppcnjaacbhpaaGreatDoorUm1
import Derived.Test.YtlppcnjaacbhpaaGreatDoorE3
import Derived.Test.YtlppcnjaacbhpaaGreatDoorG4
import Derived.Test.YtlppcnjaacbhpaaGreatDoorR2
import Derived.Deep.DeepCutAuto
import Derived.Deep.CutBlock
namespace Go.Proofs.YtlppcnjaacbhpaaGreatDoor
open Go.RowKit
set_option maxRecDepth 100000
set_option linter.unusedVariables false
set_option maxHeartbeats 4000000

theorem e77_16 : elementS (B 77) (B 0) (B 7) (B 11) (B 16) = 0 := by decide +kernel
theorem o77' : orderS (B 7) (B 11) = (B 15, 0) := by decide +kernel
theorem q77_16 : squareS 16 7 11 = true := by decide +kernel
theorem element_lit16 (w : World) (hT : Tab w) :
    Calls Tryz.prog 61 #[.agg #[.string (B 77), .string ⟨#[]⟩], .agg #[.string (B 7), .string (B 11)], .string (B 16)] w fun e w' => e = .returned (.int .i64 0) ∧ Below w.heap.size w w' := by
  have := rsagroup_element (B 77) (B 0) (B 7) (B 11) (B 16) w (B_size_le'.2 (by decide)) hT
  rw [e77_16] at this
  exact this
theorem order_lit' (w : World) (hT : Tab w) :
    Calls Tryz.prog 63 #[.agg #[.string (B 7), .string (B 11)]] w fun e w' => e = .returned (.tuple #[.string (B 15), .int .i64 0]) ∧ Below w.heap.size w w' := by
  have := rsagroup_Order (B 7) (B 11) w hT
  rw [o77'] at this
  exact this
theorem square_lit16 (w : World) :
    Calls Tryz.prog 62 #[.agg #[.string (B 7), .string (B 11)], .string (B 16)] w fun e w' => e = .returned (.bool true) ∧ Below w.heap.size w w' := by
  have := rsagroup_square 16 7 11 w (by decide) (by decide) (by decide) (by decide) (by decide)
  rw [q77_16] at this
  exact this
theorem gcd_lit7' (w : World) : Calls Tryz.prog 64 #[.string (B 7), .string (B 15)] w fun e w' => e = .returned (.tuple #[.string (B 1), .int .i64 0]) ∧ Below w.heap.size w w' :=
  natural_Gcd 7 15 w (by decide) (by decide)
theorem power_lit16 (w : World) : Calls Tryz.prog 67 #[.string (B 16), .agg #[.bool false, .string (B 13)], .string (B 77)] w fun e w' => e = .returned (.tuple #[.string (B 37), .int .i64 0]) ∧ Below w.heap.size w w' :=
  modular_Power 16 77 13 w (by decide) (by decide) (by decide) (small_lim (by decide))
theorem from_lit' (w : World) : Calls Tryz.prog 45 #[.string (B 13)] w fun e w' => e = .returned (.agg #[.bool false, .string (B 13)]) ∧ Below w.heap.size w w' :=
  integer_From 13 w (Lib.hid (small_lim (by decide)))
theorem rsagroup_Root_16 (w : World) (hT : Tab w) :
    Calls Tryz.prog 40 #[.agg #[.string (B 77), .string ⟨#[]⟩], .agg #[.string (B 7), .string (B 11)], .string (B 16), .string (B 7)] w fun e w' => e = .returned (.tuple #[.string (B 37), .int .i64 0]) ∧ Below w.heap.size w w' := by
  have v4 := valid_B (show 16 < lim from small_lim (by decide))
  have v7 := valid_B (show 7 < lim from small_lim (by decide))
  have HT := Lib.hid ((hT.alloc (.cells #[.string (B 77), .string ⟨#[]⟩] 24)).alloc (.cells #[.string (B 7), .string (B 11)] 47))
  have F0 := Lib.hid (show Below w.heap.size w ((w.alloc (.cells #[.string (B 77), .string ⟨#[]⟩] 24)).alloc (.cells #[.string (B 7), .string (B 11)] 47)) from ((Below.refl _ _).alloc (Nat.le_refl _) _).alloc (by simp) _)
  have k1 : ((B 1).toList == (B 1).toList) = true := by simp
  clear hT
  go_enter Tryz.func40, Tryz.ntmps40
  go_wp2_with (first | (go_at_call 60; refine (natural_Valid _ _).mono ?_; rintro e w' ⟨rfl, rfl⟩) | (go_at_call 61; refine (element_lit16 _ HT.out).mono ?_; rintro e w1 ⟨rfl, hb1⟩; have hcw1 := (bcell hb1).1; have hT1 := Lib.hid (HT.out.below hb1); have hs1 := hb1.size; have hq1 : w.heap.size + 1 < w1.heap.size := by { simp at hs1; omega }) | (go_at_call 62; refine (square_lit16 _).mono ?_; rintro e w2 ⟨rfl, hb2⟩; have hcw2 := (bcell hb2).1; have hT2 := Lib.hid (hT1.out.below hb2); have hs2 := hb2.size; have hq2 : w.heap.size + 1 < w2.heap.size := by { omega }) | (go_at_call 63; refine (order_lit' _ hT2.out).mono ?_; rintro e w3 ⟨rfl, hb3⟩; have hcw3 := (bcell hb3).1; have hs3 := hb3.size) | (go_at_call 64; (with_reducible refine (gcd_lit7' _).mono ?_); rintro e w4 ⟨rfl, hb4⟩; have hcw4 := (bcell hb4).1; have hs4 := hb4.size) | (go_at_call 65; refine (rsagroup_one _).mono ?_; rintro e w5 ⟨rfl, hb5⟩; have hcw5 := (bcell hb5).1; have hs5 := hb5.size) | (go_at_call 66; (with_reducible refine (modular_Inverse_7_15 _).mono ?_); rintro e w6 ⟨rfl, hb6⟩; have hcw6 := (bcell hb6).1; have hs6 := hb6.size))
  have hq6 : w.heap.size < w6.heap.size := by simp at hs1; omega
  have g6 : w6.cell? ⟨w.heap.size, 0, none⟩ = some (.string (B 77)) := by
    have hb16 := below2 (below2 (below2 (below2 (below2 hb1 hb2) hb3) hb4) hb5) hb6
    rw [hb16.cell (p := ⟨w.heap.size, 0, none⟩) (by simp; omega)]
    simp [go_sem]
  have HBB := Lib.hid (below2 (below2 (below2 (below2 (below2 (below2 F0.out hb1) hb2) hb3) hb4) hb5) hb6)
  clear hcw1 hcw2 hcw3 hcw4 hcw5 hcw6 hs2 hs3 hs4 hs5 hs6 hs1 hq1 hq2 HT hT1 hT2 F0 hb1 hb2 hb3 hb4 hb5 hb6 v4 v7 k1
  go_region_with (first | (go_at_call 45; (with_reducible refine (from_lit' _).mono ?_); rintro e w7 ⟨rfl, hb7⟩; have hb67 : Below w6.heap.size w6 w7 := by { first | exact hb7 | exact ((Below.refl _ w6).drew).trans hb7 }; have hcw7 := (bcell hb67).1) | (go_at_call 67; (with_reducible refine (power_lit16 _).mono ?_); rintro e w8 ⟨rfl, hb8⟩; have hb68 : Below w6.heap.size w6 w8 := by { first | exact below2 hb67 hb8 | exact below2 hb67 (((Below.refl _ _).drew).trans hb8) }))
  all_goals
    go_wp2_with fail
    go_ret2
    exact ⟨rfl, below2 HBB.out hb68⟩


theorem law35_num (z : Int) (n : Nat) (w : World) (hz : z = n) (hn : n < 18446744073709551616) :
    Calls Tryz.prog 19 #[.int .u64 z] w fun e w' => e = .returned (.string (B n)) ∧ Below w.heap.size w w' := by
  have H := Lib.hid (fun w => r01_Of' z n w hz hn)
  clear hz hn
  go_enter Tryz.func19, Tryz.ntmps19
  go_wp2_with (first | (go_at_call 39; refine (H.out _).mono ?_; rintro e w1 ⟨rfl, hb1⟩))
  go_ret
  exact ⟨rfl, hb1⟩

end Go.Proofs.YtlppcnjaacbhpaaGreatDoor

namespace Go.Proofs.YtlppcnjaacbhpaaGreatDoor
open Go.RowKit
set_option maxRecDepth 100000
set_option linter.unusedVariables false
set_option maxHeartbeats 4000000

/-- A block that still reads as it was made. -/
theorem old_cell {w1 w' : World} {g : Nat} {cs : Array Value} {T : TypeId} (hg : g < w1.heap.size) (h0 : w1.heap[g]? = some (.cells cs T (0, 0))) (hb : Below w1.heap.size w1 w') (k : Nat) :
    w'.cell? ⟨g, k, none⟩ = cs[k]? ∧ w'.frozen? ⟨g, k, none⟩ = false := by
  have h1 : w'.heap[g]? = some (.cells cs T (0, 0)) := (hb.block g hg).trans h0
  exact ⟨cell_of_row w' g k cs T (0, 0) h1, by simp [World.frozen?, h1]⟩
theorem two_boxes (w : World) (o1 o2 : Obj) : ((w.alloc o1).alloc o2).heap[w.heap.size]? = some o1 ∧ ((w.alloc o1).alloc o2).heap[w.heap.size + 1]? = some o2 :=
  ⟨(Below.heap_alloc _ o2 _ (by simp)).trans (heap_alloc_new w _), by have := heap_alloc_new (w.alloc o1) o2; rwa [World.size_alloc] at this⟩
theorem law35_key (w : World) :
    Calls Tryz.prog 22 #[] w fun e w' => e = .returned (.tuple #[.agg #[.string ⟨#[]⟩, .string (B 77), .string ⟨#[]⟩, .string ⟨#[]⟩, .string ⟨#[]⟩, .slice none 0 0, .string (B 4), .string ⟨#[]⟩], .agg #[.string (B 7), .string (B 11)]]) ∧ Below w.heap.size w w' := by
  go_enter Tryz.func22, Tryz.ntmps22
  go_wp2_with (first | (go_at_call 19; (with_reducible refine (law35_num 77 77 _ rfl (by decide)).mono ?_); rintro e w1 ⟨rfl, hb1⟩) | (go_at_call 19; (with_reducible refine (law35_num 4 4 _ rfl (by decide)).mono ?_); rintro e w2 ⟨rfl, hb2⟩) | (go_at_call 19; (with_reducible refine (law35_num 7 7 _ rfl (by decide)).mono ?_); rintro e w3 ⟨rfl, hb3⟩))
  refine (law35_num 11 11 _ rfl (by decide)).mono ?_
  rintro e w4 ⟨rfl, hb4⟩
  have hb14 := below2 (below2 (below2 hb1 hb2) hb3) hb4
  have hA := fun k => old_cell (g := w.heap.size) (cs := #[.string ⟨#[]⟩, .string ⟨#[]⟩, .string ⟨#[]⟩, .string ⟨#[]⟩, .string ⟨#[]⟩, .slice none 0 0, .string ⟨#[]⟩, .string ⟨#[]⟩]) (T := 27) (by simp; omega) (two_boxes w _ _).1 hb14 k
  have hB := fun k => old_cell (g := w.heap.size + 1) (cs := #[.string ⟨#[]⟩, .string ⟨#[]⟩]) (T := 47) (by simp) (two_boxes w _ _).2 hb14 k
  obtain ⟨a0, f0⟩ := hA 0
  obtain ⟨a1, f1⟩ := hA 1
  obtain ⟨a2, f2⟩ := hA 2
  obtain ⟨a3, f3⟩ := hA 3
  obtain ⟨a4, f4⟩ := hA 4
  obtain ⟨a5, f5⟩ := hA 5
  obtain ⟨a6, f6⟩ := hA 6
  obtain ⟨a7, f7⟩ := hA 7
  obtain ⟨b0, g0⟩ := hB 0
  obtain ⟨b1, g1⟩ := hB 1
  simp only [List.getElem?_toArray, List.getElem?_cons_zero, List.getElem?_cons_succ] at a0 a1 a2 a3 a4 a5 a6 a7 b0 b1
  have HB14 := Lib.hid hb14
  clear hA hB hb14 hb1 hb2 hb3 hb4
  go_wp2_with fail
  have F0 : Below w.heap.size w w4 := ((((Below.refl _ _).alloc (Nat.le_refl _) _).alloc (by simp) _).trans (HB14.out.mono (by simp; omega)))
  have k1 : w.heap.size ≤ w.heap.size := Nat.le_refl _
  have k2 : w.heap.size ≤ w.heap.size + 1 := Nat.le_succ _
  exact bodyPost_ret (v := .tuple #[.agg #[.string ⟨#[]⟩, .string (B 77), .string ⟨#[]⟩, .string ⟨#[]⟩, .string ⟨#[]⟩, .slice none 0 0, .string (B 4), .string ⟨#[]⟩], .agg #[.string (B 7), .string (B 11)]])
    (by simp [results, Tryz.results22, go_sem, a0, a1, a2, a3, a4, a5, a6, a7, b0, b1]) rfl ⟨rfl, (((((((((F0.setCell k1 _).setCell k1 _).setCell k1 _).setCell k1 _).setCell k1 _).setCell k1 _).setCell k1 _).setCell k1 _).setCell k2 _).setCell k2 _⟩

end Go.Proofs.YtlppcnjaacbhpaaGreatDoor

namespace Go.Proofs.YtlppcnjaacbhpaaGreatDoor
open Go.RowKit
set_option maxRecDepth 100000
set_option linter.unusedVariables false
set_option maxHeartbeats 4000000

theorem r77_16 : readyS (B 77) (B 0) [B 16] [B 7] = 0 := by decide +kernel
theorem v77 : valueS (B 77) (B 0) (B 4) [B 7, B 11] = (B 16, 0) := by decide +kernel
theorem w77 : witnessS (B 77) (B 0) (B 4) [B 7, B 11] (B 7) = (B 37, 0) := by decide +kernel
theorem k77 : checkAS (B 77) (B 0) (B 16) (B 7) (B 37) = 0 := by decide +kernel
theorem acc_Remove_lit (w : World) (hT : Tab w) :
    Calls Tryz.prog 23 #[.agg #[.string ⟨#[]⟩, .string (B 77), .string ⟨#[]⟩, .string ⟨#[]⟩, .string ⟨#[]⟩, .slice none 0 0, .string (B 4), .string ⟨#[]⟩], .agg #[.string (B 7), .string (B 11)], .string (B 16), .string (B 7)] w fun e w' => e = .returned (.tuple #[.string (B 37), .int .i64 0]) ∧ Below w.heap.size w w' := by
  have hK := KeyAt.box w (.string ⟨#[]⟩) (.string ⟨#[]⟩) (.string ⟨#[]⟩) (.slice none 0 0) (.string ⟨#[]⟩) (B 77) ⟨#[]⟩ (B 4) 27
  have hrd := acc_ready_new (B 77) ⟨#[]⟩ [B 16] [B 7] 1 1 (w.heap.size + 1 + 1) (w.heap.size + 1 + 1 + 1) ((w.alloc (.cells #[.string ⟨#[]⟩, .string (B 77), .string ⟨#[]⟩, .string ⟨#[]⟩, .string ⟨#[]⟩, .slice none 0 0, .string (B 4), .string ⟨#[]⟩] 27)).alloc (.cells #[.string (B 7), .string (B 11)] 47))
    ((((w.alloc (.cells #[.string ⟨#[]⟩, .string (B 77), .string ⟨#[]⟩, .string ⟨#[]⟩, .string ⟨#[]⟩, .slice none 0 0, .string (B 4), .string ⟨#[]⟩] 27)).alloc (.cells #[.string (B 7), .string (B 11)] 47)).alloc (.cells #[.string (B 16)] 22)).alloc (.cells #[.string (B 7)] 22)) 22 22 rfl (by simp) (by simp) (B_size_le'.2 (by decide)) rfl rfl (by decide) (by decide)
  rw [show readyS (B 77) ⟨#[]⟩ [B 16] [B 7] = 0 from r77_16] at hrd
  have HRD := Lib.hid hrd
  have HB2 := Lib.hid (((hK.alloc (.cells #[.string (B 7), .string (B 11)] 47)).alloc (.cells #[.string (B 16)] 22)).alloc (.cells #[.string (B 7)] 22))
  have HT2 := Lib.hid ((((hT.alloc (.cells #[.string ⟨#[]⟩, .string (B 77), .string ⟨#[]⟩, .string ⟨#[]⟩, .string ⟨#[]⟩, .slice none 0 0, .string (B 4), .string ⟨#[]⟩] 27)).alloc (.cells #[.string (B 7), .string (B 11)] 47)).alloc (.cells #[.string (B 16)] 22)).alloc (.cells #[.string (B 7)] 22))
  have c1 := HB2.out.c1
  have c2 := HB2.out.c2
  have HRT := Lib.hid rsagroup_Root_16
  clear hK hrd hT
  go_enter Tryz.func23, Tryz.ntmps23
  go_wp2_with (first | (go_at_call 24; (with_reducible refine HRD.out.mono ?_); rintro e w1 ⟨rfl, hb1⟩; have n1 := HB2.out.next hb1; have p1 := n1.c1; have p2 := n1.c2; have t0 : w1.cell? ⟨w.heap.size + 1, 0, none⟩ = some (.string (B 7)) := (hb1.cell (p := ⟨w.heap.size + 1, 0, none⟩) (by simp)).trans (by simp [go_sem]); have t1 : w1.cell? ⟨w.heap.size + 1, 1, none⟩ = some (.string (B 11)) := (hb1.cell (p := ⟨w.heap.size + 1, 1, none⟩) (by simp)).trans (by simp [go_sem]); have H1 := Lib.hid n1; have HT1 := Lib.hid (HT2.out.below hb1); clear n1 hb1) | (go_at_call 40; (with_reducible refine (HRT.out _ HT1.out).mono ?_); rintro e w2 ⟨rfl, hb2⟩; have H2 := Lib.hid (H1.out.next hb2); clear hb2))
  go_ret2
  exact ⟨rfl, H2.out.below⟩

/-- The examples' key and trapdoor in memory. -/
structure AkAt (w : World) (g : Nat) (wx : World) : Prop where
  blk : wx.heap[g]? = some (.cells #[.string ⟨#[]⟩, .string (B 77), .string ⟨#[]⟩, .string ⟨#[]⟩, .string ⟨#[]⟩, .slice none 0 0, .string (B 4), .string ⟨#[]⟩] 27 (0, 0))
  blk2 : wx.heap[g + 1]? = some (.cells #[.string (B 7), .string (B 11)] 47 (0, 0))
  tab : Tab wx
  below : Below w.heap.size w wx
  size : g + 1 < wx.heap.size
theorem AkAt.next {w wx w' : World} {g : Nat} (h : AkAt w g wx) (hb : Below wx.heap.size wx w') : AkAt w g w' := by
  have hz := h.size
  exact ⟨(hb.block g (by omega)).trans h.blk, (hb.block (g + 1) hz).trans h.blk2, h.tab.below hb, below2 h.below hb, Nat.lt_of_lt_of_le hz hb.size⟩
theorem AkAt.drew {w wx : World} {g : Nat} (h : AkAt w g wx) : AkAt w g wx.drew := h.next ((Below.refl _ _).drew)
theorem AkAt.alloc {w wx : World} {g : Nat} (h : AkAt w g wx) (o : Obj) : AkAt w g (wx.alloc o) := h.next ((Below.refl _ _).alloc (Nat.le_refl _) _)
theorem AkAt.all {w wx : World} {g : Nat} (h : AkAt w g wx) : wx.cell? ⟨g, 0, none⟩ = some (.string ⟨#[]⟩) ∧ wx.cell? ⟨g, 1, none⟩ = some (.string (B 77)) ∧ wx.cell? ⟨g, 2, none⟩ = some (.string ⟨#[]⟩) ∧ wx.cell? ⟨g, 3, none⟩ = some (.string ⟨#[]⟩) ∧ wx.cell? ⟨g, 4, none⟩ = some (.string ⟨#[]⟩) ∧ wx.cell? ⟨g, 5, none⟩ = some (.slice none 0 0) ∧ wx.cell? ⟨g, 6, none⟩ = some (.string (B 4)) ∧ wx.cell? ⟨g, 7, none⟩ = some (.string ⟨#[]⟩) ∧ wx.cell? ⟨g + 1, 0, none⟩ = some (.string (B 7)) ∧ wx.cell? ⟨g + 1, 1, none⟩ = some (.string (B 11)) :=
  ⟨cell_of_row wx g 0 _ _ _ h.blk, cell_of_row wx g 1 _ _ _ h.blk, cell_of_row wx g 2 _ _ _ h.blk, cell_of_row wx g 3 _ _ _ h.blk, cell_of_row wx g 4 _ _ _ h.blk, cell_of_row wx g 5 _ _ _ h.blk, cell_of_row wx g 6 _ _ _ h.blk, cell_of_row wx g 7 _ _ _ h.blk, cell_of_row wx (g + 1) 0 _ _ _ h.blk2, cell_of_row wx (g + 1) 1 _ _ _ h.blk2⟩
theorem AkAt.made {w w1 : World} (hT : Tab w1) (hb : Below w.heap.size w w1) : AkAt w w1.heap.size ((w1.alloc (.cells #[.string ⟨#[]⟩, .string (B 77), .string ⟨#[]⟩, .string ⟨#[]⟩, .string ⟨#[]⟩, .slice none 0 0, .string (B 4), .string ⟨#[]⟩] 27)).alloc (.cells #[.string (B 7), .string (B 11)] 47)) :=
  ⟨(two_boxes w1 _ _).1, (two_boxes w1 _ _).2, (hT.alloc _).alloc _, (hb.alloc hb.size _).alloc (by have := hb.size; simp; omega) _, by simp⟩
theorem sls_lit (X : World) : SLs (X.alloc (.cells #[.string (B 7), .string (B 11)] 22)) (X.alloc (.cells #[.string (B 7), .string (B 11)] 22)).heap.size (some ⟨X.heap.size, 0, none⟩) [B 7, B 11] := SLs.new X 22 [B 7, B 11] _ (by simp)
theorem sls_lit_drew (X : World) : SLs (X.alloc (.cells #[.string (B 7), .string (B 11)] 22)).drew (X.alloc (.cells #[.string (B 7), .string (B 11)] 22)).drew.heap.size (some ⟨X.heap.size, 0, none⟩) [B 7, B 11] := sls_lit X
theorem SLs.to {W w' : World} {A : Option Addr} {ls : List ByteArray} (h : SLs W W.heap.size A ls) (hb : Below W.heap.size W w') : SLs w' w'.heap.size A ls := (h.below hb).more hb.size
theorem SLs.drew {W : World} {b : Nat} {A : Option Addr} {ls : List ByteArray} (h : SLs W b A ls) : SLs W.drew b A ls := h
theorem value_lit (W : World) : Calls Tryz.prog 10 #[.agg #[.string ⟨#[]⟩, .string (B 77), .string ⟨#[]⟩, .string ⟨#[]⟩, .string ⟨#[]⟩, .slice none 0 0, .string (B 4), .string ⟨#[]⟩], .slice (some ⟨W.heap.size, 0, none⟩) 2 2] (W.alloc (.cells #[.string (B 7), .string (B 11)] 22)) fun e w' => e = .returned (.tuple #[.string (B 16), .int .i64 0]) ∧ Below (W.alloc (.cells #[.string (B 7), .string (B 11)] 22)).heap.size (W.alloc (.cells #[.string (B 7), .string (B 11)] 22)) w' := by
  have := acc_Value (.string ⟨#[]⟩) (.string ⟨#[]⟩) (.string ⟨#[]⟩) (.slice none 0 0) (.string ⟨#[]⟩) (B 77) ⟨#[]⟩ (B 4) [B 7, B 11] (some ⟨W.heap.size, 0, none⟩) 2 2 (W.alloc (.cells #[.string (B 7), .string (B 11)] 22)) (B_size_le'.2 (by decide)) rfl (by decide) (SLs.new W 22 [B 7, B 11] _ (by simp))
  rw [show valueS (B 77) ⟨#[]⟩ (B 4) [B 7, B 11] = (B 16, 0) from v77] at this
  exact this
theorem witness_lit (W : World) (g : Nat) (hs : SLs W W.heap.size (some ⟨g, 0, none⟩) [B 7, B 11]) : Calls Tryz.prog 12 #[.agg #[.string ⟨#[]⟩, .string (B 77), .string ⟨#[]⟩, .string ⟨#[]⟩, .string ⟨#[]⟩, .slice none 0 0, .string (B 4), .string ⟨#[]⟩], .slice (some ⟨g, 0, none⟩) 2 2, .string (B 7)] W fun e w' => e = .returned (.tuple #[.string (B 37), .int .i64 0]) ∧ Below W.heap.size W w' := by
  have := acc_Witness (.string ⟨#[]⟩) (.string ⟨#[]⟩) (.string ⟨#[]⟩) (.slice none 0 0) (.string ⟨#[]⟩) (B 77) ⟨#[]⟩ (B 4) (B 7) [B 7, B 11] (some ⟨g, 0, none⟩) 2 2 W (B_size_le'.2 (by decide)) rfl (by decide) hs
  rw [show witnessS (B 77) ⟨#[]⟩ (B 4) [B 7, B 11] (B 7) = (B 37, 0) from w77] at this
  exact this
theorem check_lit35 (W : World) : Calls Tryz.prog 20 #[.agg #[.string ⟨#[]⟩, .string (B 77), .string ⟨#[]⟩, .string ⟨#[]⟩, .string ⟨#[]⟩, .slice none 0 0, .string (B 4), .string ⟨#[]⟩], .string (B 16), .string (B 7), .string (B 37)] W fun e w' => e = .returned (.int .i64 0) ∧ Below W.heap.size W w' := by
  have := acc_Check (.string ⟨#[]⟩) (.string ⟨#[]⟩) (.string ⟨#[]⟩) (.slice none 0 0) (.string ⟨#[]⟩) (B 77) ⟨#[]⟩ (B 4) (B 16) (B 7) (B 37) W (B_size_le'.2 (by decide))
  rw [show checkAS (B 77) ⟨#[]⟩ (B 16) (B 7) (B 37) = 0 from k77] at this
  exact this
theorem law35_awake (w : World) (hT : Tab w) :
    Calls Tryz.prog 9 #[] w fun e w' => e = .returned (.bool true) ∧ Below w.heap.size w w' := by
  have HT := Lib.hid hT
  clear hT
  go_enter Tryz.func9, Tryz.ntmps9
  go_wp2_with (first | (go_at_call 22; (with_reducible refine (law35_key _).mono ?_); rintro e w1 ⟨rfl, hb1⟩))
  have hak := AkAt.made (HT.out.below hb1) hb1
  obtain ⟨g, hg⟩ : ∃ g, w1.heap.size = g := ⟨_, rfl⟩
  rw [hg] at hak ⊢
  obtain ⟨W, hW⟩ : ∃ W, (w1.alloc (.cells #[.string ⟨#[]⟩, .string (B 77), .string ⟨#[]⟩, .string ⟨#[]⟩, .string ⟨#[]⟩, .slice none 0 0, .string (B 4), .string ⟨#[]⟩] 27)).alloc (.cells #[.string (B 7), .string (B 11)] 47) = W := ⟨_, rfl⟩
  rw [hW] at hak ⊢
  obtain ⟨y0, y1, y2, y3, y4, y5, y6, y7, y8, y9⟩ := hak.all
  have H0 := Lib.hid hak
  clear hak hW hg hb1
  go_region_held3 (fun w' => w'.cell? ⟨g, 0, none⟩ = some (.string ⟨#[]⟩) ∧ w'.cell? ⟨g, 1, none⟩ = some (.string (B 77)) ∧ w'.cell? ⟨g, 2, none⟩ = some (.string ⟨#[]⟩) ∧ w'.cell? ⟨g, 3, none⟩ = some (.string ⟨#[]⟩) ∧ w'.cell? ⟨g, 4, none⟩ = some (.string ⟨#[]⟩) ∧ w'.cell? ⟨g, 5, none⟩ = some (.slice none 0 0) ∧ w'.cell? ⟨g, 6, none⟩ = some (.string (B 4)) ∧ w'.cell? ⟨g, 7, none⟩ = some (.string ⟨#[]⟩) ∧ w'.cell? ⟨g + 1, 0, none⟩ = some (.string (B 7)) ∧ w'.cell? ⟨g + 1, 1, none⟩ = some (.string (B 11))) (first | go_keep) (first | (go_at_call 19; (with_reducible refine (law35_num 7 7 _ rfl (by decide)).mono ?_); rintro e wa7 ⟨rfl, h⟩; have n : AkAt w g wa7 := by { first | exact P7.out.next h | exact P7.out.drew.next h | exact (P7.out.alloc _).next h | exact (P7.out.drew.alloc _).next h | exact ((P7.out.alloc _).drew).next h | exact P11.out.next h | exact P11.out.drew.next h | exact (P11.out.alloc _).next h | exact (P11.out.drew.alloc _).next h | exact ((P11.out.alloc _).drew).next h | exact H0.out.next h | exact H0.out.drew.next h | exact (H0.out.alloc _).next h | exact (H0.out.drew.alloc _).next h | exact ((H0.out.alloc _).drew).next h }; obtain ⟨y0, y1, y2, y3, y4, y5, y6, y7, y8, y9⟩ := n.all; have P7 := Lib.hid n; clear n h) | (go_at_call 19; (with_reducible refine (law35_num 11 11 _ rfl (by decide)).mono ?_); rintro e wa11 ⟨rfl, h⟩; have n : AkAt w g wa11 := by { first | exact P7.out.next h | exact P7.out.drew.next h | exact (P7.out.alloc _).next h | exact (P7.out.drew.alloc _).next h | exact ((P7.out.alloc _).drew).next h | exact P11.out.next h | exact P11.out.drew.next h | exact (P11.out.alloc _).next h | exact (P11.out.drew.alloc _).next h | exact ((P11.out.alloc _).drew).next h | exact H0.out.next h | exact H0.out.drew.next h | exact (H0.out.alloc _).next h | exact (H0.out.drew.alloc _).next h | exact ((H0.out.alloc _).drew).next h }; obtain ⟨y0, y1, y2, y3, y4, y5, y6, y7, y8, y9⟩ := n.all; have P11 := Lib.hid n; clear n h) | (go_at_call 10; (with_reducible refine (value_lit _).mono ?_); rintro e wv ⟨rfl, h⟩; have n : AkAt w g wv := by { first | exact P7.out.next h | exact P7.out.drew.next h | exact (P7.out.alloc _).next h | exact (P7.out.drew.alloc _).next h | exact ((P7.out.alloc _).drew).next h | exact P11.out.next h | exact P11.out.drew.next h | exact (P11.out.alloc _).next h | exact (P11.out.drew.alloc _).next h | exact ((P11.out.alloc _).drew).next h }; obtain ⟨y0, y1, y2, y3, y4, y5, y6, y7, y8, y9⟩ := n.all; have H1 := Lib.hid n; clear n h))
  all_goals
    go_wp2_with fail
    go_region_held3 (fun w' => w'.cell? ⟨g, 0, none⟩ = some (.string ⟨#[]⟩) ∧ w'.cell? ⟨g, 1, none⟩ = some (.string (B 77)) ∧ w'.cell? ⟨g, 2, none⟩ = some (.string ⟨#[]⟩) ∧ w'.cell? ⟨g, 3, none⟩ = some (.string ⟨#[]⟩) ∧ w'.cell? ⟨g, 4, none⟩ = some (.string ⟨#[]⟩) ∧ w'.cell? ⟨g, 5, none⟩ = some (.slice none 0 0) ∧ w'.cell? ⟨g, 6, none⟩ = some (.string (B 4)) ∧ w'.cell? ⟨g, 7, none⟩ = some (.string ⟨#[]⟩) ∧ w'.cell? ⟨g + 1, 0, none⟩ = some (.string (B 7)) ∧ w'.cell? ⟨g + 1, 1, none⟩ = some (.string (B 11))) (first | go_keep) (first | (go_at_call 19; (with_reducible refine (law35_num 7 7 _ rfl (by decide)).mono ?_); rintro e wa7 ⟨rfl, h⟩; have n : AkAt w g wa7 := by { first | exact Q7.out.next h | exact Q7.out.drew.next h | exact (Q7.out.alloc _).next h | exact (Q7.out.drew.alloc _).next h | exact ((Q7.out.alloc _).drew).next h | exact Q11.out.next h | exact Q11.out.drew.next h | exact (Q11.out.alloc _).next h | exact (Q11.out.drew.alloc _).next h | exact ((Q11.out.alloc _).drew).next h | exact H1.out.next h | exact H1.out.drew.next h | exact (H1.out.alloc _).next h | exact (H1.out.drew.alloc _).next h | exact ((H1.out.alloc _).drew).next h }; obtain ⟨y0, y1, y2, y3, y4, y5, y6, y7, y8, y9⟩ := n.all; have Q7 := Lib.hid n; (first | (have SL := Lib.hid ((sls_lit _).to h)) | (have SL := Lib.hid ((sls_lit_drew _).to h)) | skip); clear n h) | (go_at_call 19; (with_reducible refine (law35_num 11 11 _ rfl (by decide)).mono ?_); rintro e wa11 ⟨rfl, h⟩; have n : AkAt w g wa11 := by { first | exact Q7.out.next h | exact Q7.out.drew.next h | exact (Q7.out.alloc _).next h | exact (Q7.out.drew.alloc _).next h | exact ((Q7.out.alloc _).drew).next h | exact Q11.out.next h | exact Q11.out.drew.next h | exact (Q11.out.alloc _).next h | exact (Q11.out.drew.alloc _).next h | exact ((Q11.out.alloc _).drew).next h | exact H1.out.next h | exact H1.out.drew.next h | exact (H1.out.alloc _).next h | exact (H1.out.drew.alloc _).next h | exact ((H1.out.alloc _).drew).next h }; obtain ⟨y0, y1, y2, y3, y4, y5, y6, y7, y8, y9⟩ := n.all; have Q11 := Lib.hid n; (first | (have SL := Lib.hid ((sls_lit _).to h)) | (have SL := Lib.hid ((sls_lit_drew _).to h)) | skip); clear n h) | (go_at_call 12; (refine (witness_lit _ _ (by first | exact sls_lit _ | exact sls_lit_drew _ | exact SL.out | exact SL.out.drew)).mono ?_); rintro e wv ⟨rfl, h⟩; have n : AkAt w g wv := by { first | exact Q7.out.next h | exact Q7.out.drew.next h | exact (Q7.out.alloc _).next h | exact (Q7.out.drew.alloc _).next h | exact ((Q7.out.alloc _).drew).next h | exact Q11.out.next h | exact Q11.out.drew.next h | exact (Q11.out.alloc _).next h | exact (Q11.out.drew.alloc _).next h | exact ((Q11.out.alloc _).drew).next h }; obtain ⟨y0, y1, y2, y3, y4, y5, y6, y7, y8, y9⟩ := n.all; have H2 := Lib.hid n; clear n h))
    all_goals
      go_wp2_with fail
      go_region_held3 (fun w' => w'.cell? ⟨g, 0, none⟩ = some (.string ⟨#[]⟩) ∧ w'.cell? ⟨g, 1, none⟩ = some (.string (B 77)) ∧ w'.cell? ⟨g, 2, none⟩ = some (.string ⟨#[]⟩) ∧ w'.cell? ⟨g, 3, none⟩ = some (.string ⟨#[]⟩) ∧ w'.cell? ⟨g, 4, none⟩ = some (.string ⟨#[]⟩) ∧ w'.cell? ⟨g, 5, none⟩ = some (.slice none 0 0) ∧ w'.cell? ⟨g, 6, none⟩ = some (.string (B 4)) ∧ w'.cell? ⟨g, 7, none⟩ = some (.string ⟨#[]⟩) ∧ w'.cell? ⟨g + 1, 0, none⟩ = some (.string (B 7)) ∧ w'.cell? ⟨g + 1, 1, none⟩ = some (.string (B 11))) (first | go_keep) (first | (go_at_call 19; (with_reducible refine (law35_num 16 16 _ rfl (by decide)).mono ?_); rintro e wa16 ⟨rfl, h⟩; have n : AkAt w g wa16 := by { first | exact R7.out.next h | exact R7.out.drew.next h | exact (R7.out.alloc _).next h | exact (R7.out.drew.alloc _).next h | exact ((R7.out.alloc _).drew).next h | exact R16.out.next h | exact R16.out.drew.next h | exact (R16.out.alloc _).next h | exact (R16.out.drew.alloc _).next h | exact ((R16.out.alloc _).drew).next h | exact H2.out.next h | exact H2.out.drew.next h | exact (H2.out.alloc _).next h | exact (H2.out.drew.alloc _).next h | exact ((H2.out.alloc _).drew).next h }; obtain ⟨y0, y1, y2, y3, y4, y5, y6, y7, y8, y9⟩ := n.all; have R16 := Lib.hid n; clear n h) | (go_at_call 19; (with_reducible refine (law35_num 7 7 _ rfl (by decide)).mono ?_); rintro e wa7 ⟨rfl, h⟩; have n : AkAt w g wa7 := by { first | exact R16.out.next h | exact R16.out.drew.next h | exact (R16.out.alloc _).next h | exact (R16.out.drew.alloc _).next h | exact ((R16.out.alloc _).drew).next h | exact R7.out.next h | exact R7.out.drew.next h | exact (R7.out.alloc _).next h | exact (R7.out.drew.alloc _).next h | exact ((R7.out.alloc _).drew).next h | exact H2.out.next h | exact H2.out.drew.next h | exact (H2.out.alloc _).next h | exact (H2.out.drew.alloc _).next h | exact ((H2.out.alloc _).drew).next h }; obtain ⟨y0, y1, y2, y3, y4, y5, y6, y7, y8, y9⟩ := n.all; have R7 := Lib.hid n; clear n h) | (go_at_call 23; (refine (acc_Remove_lit _ (by first | exact R7.out.tab | exact R16.out.tab | exact R7.out.drew.tab | exact R16.out.drew.tab)).mono ?_); rintro e wv ⟨rfl, h⟩; have n : AkAt w g wv := by { first | exact R7.out.next h | exact R7.out.drew.next h | exact (R7.out.alloc _).next h | exact (R7.out.drew.alloc _).next h | exact ((R7.out.alloc _).drew).next h | exact R16.out.next h | exact R16.out.drew.next h | exact (R16.out.alloc _).next h | exact (R16.out.drew.alloc _).next h | exact ((R16.out.alloc _).drew).next h }; obtain ⟨y0, y1, y2, y3, y4, y5, y6, y7, y8, y9⟩ := n.all; have H3 := Lib.hid n; clear n h))
      all_goals
        go_wp2_with fail
        go_region_held3 (fun w' => w'.cell? ⟨g, 0, none⟩ = some (.string ⟨#[]⟩) ∧ w'.cell? ⟨g, 1, none⟩ = some (.string (B 77)) ∧ w'.cell? ⟨g, 2, none⟩ = some (.string ⟨#[]⟩) ∧ w'.cell? ⟨g, 3, none⟩ = some (.string ⟨#[]⟩) ∧ w'.cell? ⟨g, 4, none⟩ = some (.string ⟨#[]⟩) ∧ w'.cell? ⟨g, 5, none⟩ = some (.slice none 0 0) ∧ w'.cell? ⟨g, 6, none⟩ = some (.string (B 4)) ∧ w'.cell? ⟨g, 7, none⟩ = some (.string ⟨#[]⟩) ∧ w'.cell? ⟨g + 1, 0, none⟩ = some (.string (B 7)) ∧ w'.cell? ⟨g + 1, 1, none⟩ = some (.string (B 11))) (first | go_keep) (first | (go_at_call 19; (with_reducible refine (law35_num 16 16 _ rfl (by decide)).mono ?_); rintro e wa16 ⟨rfl, h⟩; have n : AkAt w g wa16 := by { first | exact S7.out.next h | exact S7.out.drew.next h | exact (S7.out.alloc _).next h | exact (S7.out.drew.alloc _).next h | exact ((S7.out.alloc _).drew).next h | exact S16.out.next h | exact S16.out.drew.next h | exact (S16.out.alloc _).next h | exact (S16.out.drew.alloc _).next h | exact ((S16.out.alloc _).drew).next h | exact S37.out.next h | exact S37.out.drew.next h | exact (S37.out.alloc _).next h | exact (S37.out.drew.alloc _).next h | exact ((S37.out.alloc _).drew).next h | exact H3.out.next h | exact H3.out.drew.next h | exact (H3.out.alloc _).next h | exact (H3.out.drew.alloc _).next h | exact ((H3.out.alloc _).drew).next h }; obtain ⟨y0, y1, y2, y3, y4, y5, y6, y7, y8, y9⟩ := n.all; have S16 := Lib.hid n; clear n h) | (go_at_call 19; (with_reducible refine (law35_num 37 37 _ rfl (by decide)).mono ?_); rintro e wa37 ⟨rfl, h⟩; have n : AkAt w g wa37 := by { first | exact S7.out.next h | exact S7.out.drew.next h | exact (S7.out.alloc _).next h | exact (S7.out.drew.alloc _).next h | exact ((S7.out.alloc _).drew).next h | exact S16.out.next h | exact S16.out.drew.next h | exact (S16.out.alloc _).next h | exact (S16.out.drew.alloc _).next h | exact ((S16.out.alloc _).drew).next h | exact S37.out.next h | exact S37.out.drew.next h | exact (S37.out.alloc _).next h | exact (S37.out.drew.alloc _).next h | exact ((S37.out.alloc _).drew).next h | exact H3.out.next h | exact H3.out.drew.next h | exact (H3.out.alloc _).next h | exact (H3.out.drew.alloc _).next h | exact ((H3.out.alloc _).drew).next h }; obtain ⟨y0, y1, y2, y3, y4, y5, y6, y7, y8, y9⟩ := n.all; have S37 := Lib.hid n; clear n h) | (go_at_call 19; (with_reducible refine (law35_num 7 7 _ rfl (by decide)).mono ?_); rintro e wa7 ⟨rfl, h⟩; have n : AkAt w g wa7 := by { first | exact S7.out.next h | exact S7.out.drew.next h | exact (S7.out.alloc _).next h | exact (S7.out.drew.alloc _).next h | exact ((S7.out.alloc _).drew).next h | exact S16.out.next h | exact S16.out.drew.next h | exact (S16.out.alloc _).next h | exact (S16.out.drew.alloc _).next h | exact ((S16.out.alloc _).drew).next h | exact S37.out.next h | exact S37.out.drew.next h | exact (S37.out.alloc _).next h | exact (S37.out.drew.alloc _).next h | exact ((S37.out.alloc _).drew).next h | exact H3.out.next h | exact H3.out.drew.next h | exact (H3.out.alloc _).next h | exact (H3.out.drew.alloc _).next h | exact ((H3.out.alloc _).drew).next h }; obtain ⟨y0, y1, y2, y3, y4, y5, y6, y7, y8, y9⟩ := n.all; have S7 := Lib.hid n; clear n h) | (go_at_call 20; (with_reducible refine (check_lit35 _).mono ?_); rintro e wv ⟨rfl, h⟩; have n : AkAt w g wv := by { first | exact S7.out.next h | exact S7.out.drew.next h | exact (S7.out.alloc _).next h | exact (S7.out.drew.alloc _).next h | exact ((S7.out.alloc _).drew).next h | exact S37.out.next h | exact S37.out.drew.next h | exact (S37.out.alloc _).next h | exact (S37.out.drew.alloc _).next h | exact ((S37.out.alloc _).drew).next h }; obtain ⟨y0, y1, y2, y3, y4, y5, y6, y7, y8, y9⟩ := n.all; have H4 := Lib.hid n; clear n h))
        all_goals
          go_wp2_with fail
          go_ret
          exact ⟨rfl, H4.out.below⟩

end Go.Proofs.YtlppcnjaacbhpaaGreatDoor

namespace Go.Proofs.YtlppcnjaacbhpaaGreatDoor
open Go.RowKit
set_option maxRecDepth 100000
set_option linter.unusedVariables false
set_option maxHeartbeats 1000000

/-- A key's block, whole; the table; the rest as before. -/
structure KbAt (w : World) (kn z s r h : Value) (m o u : ByteArray) (wx : World) : Prop where
  blk : wx.heap[w.heap.size]? = some (.cells #[kn, .string m, .string o, z, s, r, .string u, h] 27 (0, 0))
  tab : Tab wx
  below : Below w.heap.size w wx
  size : w.heap.size < wx.heap.size
section
variable {w wx w' : World} {kn z s r h : Value} {m o u : ByteArray}
theorem KbAt.next (k : KbAt w kn z s r h m o u wx) (hb : Below wx.heap.size wx w') : KbAt w kn z s r h m o u w' :=
  ⟨(hb.block _ k.size).trans k.blk, k.tab.below hb, below2 k.below hb, Nat.lt_of_lt_of_le k.size hb.size⟩
theorem KbAt.alloc (k : KbAt w kn z s r h m o u wx) (ob : Obj) : KbAt w kn z s r h m o u (wx.alloc ob) := k.next ((Below.refl _ _).alloc (Nat.le_refl _) _)
theorem KbAt.drew (k : KbAt w kn z s r h m o u wx) : KbAt w kn z s r h m o u wx.drew := k.next ((Below.refl _ _).drew)
theorem KbAt.box (hT : Tab w) : KbAt w kn z s r h m o u (w.alloc (.cells #[kn, .string m, .string o, z, s, r, .string u, h] 27)) :=
  ⟨heap_alloc_new w _, hT.alloc _, (Below.refl _ _).alloc (Nat.le_refl _) _, by simp⟩
theorem KbAt.all (k : KbAt w kn z s r h m o u wx) : wx.cell? ⟨w.heap.size, 0, none⟩ = some kn ∧ wx.cell? ⟨w.heap.size, 1, none⟩ = some (.string m) ∧ wx.cell? ⟨w.heap.size, 2, none⟩ = some (.string o) ∧ wx.cell? ⟨w.heap.size, 3, none⟩ = some z ∧ wx.cell? ⟨w.heap.size, 4, none⟩ = some s ∧ wx.cell? ⟨w.heap.size, 5, none⟩ = some r ∧ wx.cell? ⟨w.heap.size, 6, none⟩ = some (.string u) ∧ wx.cell? ⟨w.heap.size, 7, none⟩ = some h :=
  ⟨cell_of_row wx _ 0 _ _ _ k.blk, cell_of_row wx _ 1 _ _ _ k.blk, cell_of_row wx _ 2 _ _ _ k.blk, cell_of_row wx _ 3 _ _ _ k.blk, cell_of_row wx _ 4 _ _ _ k.blk, cell_of_row wx _ 5 _ _ _ k.blk, cell_of_row wx _ 6 _ _ _ k.blk, cell_of_row wx _ 7 _ _ _ k.blk⟩
theorem KbAt.sls {A : Option Addr} {ls : List ByteArray} (k : KbAt w kn z s r h m o u wx) (hs : SLs w w.heap.size A ls) : SLs wx wx.heap.size A ls := (hs.below k.below).more k.below.size
end
def fewKeyS (m o u : ByteArray) : Bool := decide (m.size ≤ 8) && (decide (o.size ≤ 8) && decide (u.size ≤ 12))
theorem law35_FewKey (kn z s r h : Value) (m o u : ByteArray) (w : World) :
    Calls Tryz.prog 7 #[.agg #[kn, .string m, .string o, z, s, r, .string u, h]] w fun e w' => e = .returned (.bool (fewKeyS m o u)) ∧ Below w.heap.size w w' := by
  have hr : fewKeyS m o u = (decide (m.size ≤ 8) && (decide (o.size ≤ 8) && decide (u.size ≤ 12))) := rfl
  have HR := Lib.hid hr
  clear hr
  by_cases h1 : m.size ≤ 8
  · by_cases h2 : o.size ≤ 8
    · by_cases h3 : u.size ≤ 12
      · have k1 : decide ((m.size : Int) ≤ 8) = true := decide_eq_true (by omega)
        have k2 : decide ((o.size : Int) ≤ 8) = true := decide_eq_true (by omega)
        have k3 : decide ((u.size : Int) ≤ 12) = true := decide_eq_true (by omega)
        have HF : Hid (fewKeyS m o u = true) := Lib.hid (by rw [HR.out, decide_eq_true h1, decide_eq_true h2, decide_eq_true h3]; rfl)
        clear h1 h2 h3
        go_enter Tryz.func7, Tryz.ntmps7
        go_wp2
        go_ret
        exact ⟨ret_bool HF.out.symm, (Below.refl _ _).alloc (Nat.le_refl _) _⟩
      · have k1 : decide ((m.size : Int) ≤ 8) = true := decide_eq_true (by omega)
        have k2 : decide ((o.size : Int) ≤ 8) = true := decide_eq_true (by omega)
        have k3 : decide ((u.size : Int) ≤ 12) = false := decide_eq_false (by omega)
        have HF : Hid (fewKeyS m o u = false) := Lib.hid (by rw [HR.out, decide_eq_true h1, decide_eq_true h2, decide_eq_false h3]; rfl)
        clear h1 h2 h3
        go_enter Tryz.func7, Tryz.ntmps7
        go_wp2
        go_ret
        exact ⟨ret_bool HF.out.symm, (Below.refl _ _).alloc (Nat.le_refl _) _⟩
    · have k1 : decide ((m.size : Int) ≤ 8) = true := decide_eq_true (by omega)
      have k2 : decide ((o.size : Int) ≤ 8) = false := decide_eq_false (by omega)
      have HF : Hid (fewKeyS m o u = false) := Lib.hid (by rw [HR.out, decide_eq_true h1, decide_eq_false h2]; rfl)
      clear h1 h2
      go_enter Tryz.func7, Tryz.ntmps7
      go_wp2
      go_ret
      exact ⟨ret_bool HF.out.symm, (Below.refl _ _).alloc (Nat.le_refl _) _⟩
  · have k1 : decide ((m.size : Int) ≤ 8) = false := decide_eq_false (by omega)
    have HF : Hid (fewKeyS m o u = false) := Lib.hid (by rw [HR.out, decide_eq_false h1]; rfl)
    clear h1
    go_enter Tryz.func7, Tryz.ntmps7
    go_wp2
    go_ret
    exact ⟨ret_bool HF.out.symm, (Below.refl _ _).alloc (Nat.le_refl _) _⟩
/-- At most twelve numbers, the first twenty of at most 8 bytes. -/
def fewLS (ls : List ByteArray) : Bool := (ls.take 20).all (fun s => decide (s.size ≤ 8)) && decide (ls.length ≤ 12)
theorem law35_few (ls : List ByteArray) (A : Option Addr) (n c b : Nat) (w : World) (hn : ls.length = n) (hm : n ≤ maxLen) (hs : SLs w b A ls) :
    Calls Tryz.prog 8 #[.slice A n c] w fun e w' => e = .returned (.bool (fewLS ls)) ∧ w = w' := by
  have hr : fewLS ls = ((ls.take 20).all (fun s => decide (s.size ≤ 8)) && decide (ls.length ≤ 12)) := rfl
  have HR := Lib.hid hr
  have HN := Lib.hid hn
  have HS := Lib.hid hs
  unfold maxLen at hm
  clear hr hn hs
  go_enter Tryz.func8, Tryz.ntmps8
  go_wp2
  go_loop [3] (fun v => ∃ k : Nat, v = .int .i64 k ∧ k ≤ n ∧ k ≤ 20 ∧ ∀ j, j < k → decide ((ls.getD j ByteArray.empty).size ≤ 8) = true) (fun v => n - (intOf v).toNat)
  case atStart => exact ⟨0, rfl, Nat.zero_le _, by decide, fun j h => absurd h (Nat.not_lt_zero _)⟩
  case round =>
    obtain ⟨k, rfl, hk, hk2, hall⟩ := hrel
    have HA := Lib.hid hall
    clear hall
    have htk : ∀ j, j < (ls.take 20).length → (ls.take 20).getD j ByteArray.empty = ls.getD j ByteArray.empty := fun j hj => by
      rw [sgetD_lt hj, List.getElem_take, sgetD_lt (by rw [List.length_take] at hj; omega)]
    have HTK := Lib.hid htk
    clear htk
    by_cases hlt : k < n ∧ k < 20
    · obtain ⟨ad, rfl, hc⟩ := HS.out.at_ (k := k) (by rw [HN.out]; exact hlt.1)
      obtain ⟨x, hx⟩ : ∃ x, ls.getD k ByteArray.empty = x := ⟨_, rfl⟩
      rw [hx] at hc
      have HX := Lib.hid hx
      have k1 : decide (k < n) = true := decide_eq_true hlt.1
      have k2 : decide ((k : Int) < 20) = true := decide_eq_true (by omega)
      have HLT := Lib.hid hlt
      have hkn := hlt.1
      clear hx hlt
      by_cases h8 : x.size ≤ 8
      · have k3 : decide ((8 : Int) < (x.size : Int)) = false := decide_eq_false (by omega)
        have H8 := Lib.hid h8
        clear h8
        go_wp2
        go_round
        case rel => exact ⟨k + 1, by go_num, HLT.out.1, HLT.out.2, fun j hj => by
          by_cases e : j = k
          · subst e; rw [HX.out]; exact decide_eq_true H8.out
          · exact HA.out j (by omega)⟩
        case measure => have := HLT.out.1; simp [intOf]; omega
      · have k3 : decide ((8 : Int) < (x.size : Int)) = true := decide_eq_true (by omega)
        have HF : Hid (fewLS ls = false) := Lib.hid (by
          rw [HR.out, all_not' (k := k) (by rw [List.length_take, HN.out]; have := HLT.out; omega) (by rw [HTK.out k (by rw [List.length_take, HN.out]; have := HLT.out; omega), HX.out]; exact decide_eq_false h8)]
          rfl)
        clear h8
        go_wp2
        go_ret
        exact ⟨ret_bool HF.out.symm, rfl⟩
    · have HAL : Hid ((ls.take 20).all (fun s => decide (s.size ≤ 8)) = true) := Lib.hid (all_of' (fun j hj => by
        rw [HTK.out j hj]
        rw [List.length_take, HN.out] at hj
        exact HA.out j (by omega)))
      by_cases h12 : n ≤ 12
      · have hkn : k = n := by omega
        have k4 : decide ((n : Int) ≤ 12) = true := decide_eq_true (by omega)
        have HF : Hid (fewLS ls = true) := Lib.hid (by rw [HR.out, HAL.out, HN.out, decide_eq_true h12]; rfl)
        subst hkn
        clear h12 hlt
        go_wp2
        go_ret
        exact ⟨ret_bool HF.out.symm, rfl⟩
      · have k4 : decide ((n : Int) ≤ 12) = false := decide_eq_false (by omega)
        have HF : Hid (fewLS ls = false) := Lib.hid (by rw [HR.out, HAL.out, HN.out, decide_eq_false h12]; rfl)
        have k5 : decide (k < n) = false ∨ (decide (k < n) = true ∧ decide ((k : Int) < 20) = false) := by
          by_cases hh : k < n
          · exact .inr ⟨decide_eq_true hh, decide_eq_false (by omega)⟩
          · exact .inl (decide_eq_false hh)
        clear h12 hlt
        rcases k5 with k5 | ⟨k5, k6⟩
        · go_wp2
          go_ret
          exact ⟨ret_bool HF.out.symm, rfl⟩
        · go_wp2
          go_ret
          exact ⟨ret_bool HF.out.symm, rfl⟩

end Go.Proofs.YtlppcnjaacbhpaaGreatDoor
