/- The law's examples: awake. -/
import Derived.Test.YtgbkjicpmjncaaaDoorA1
import Derived.Deep.DeepCutAuto
import Derived.Deep.RegionHeld3
import Derived.Deep.CutBlock
namespace Go.Proofs.YtgbkjicpmjncaaaDoor
open Go.RowKit
set_option maxRecDepth 100000
set_option linter.unusedVariables false
set_option maxHeartbeats 4000000

/-- The group and its trapdoor lie in memory. -/
structure AwAt (w : World) (g : Nat) (wx : World) : Prop where
  c0 : wx.cell? ⟨g, 0, none⟩ = some (.string (B 77))
  c1 : wx.cell? ⟨g, 1, none⟩ = some (.string ⟨#[]⟩)
  d0 : wx.cell? ⟨g + 1, 0, none⟩ = some (.string (B 7))
  d1 : wx.cell? ⟨g + 1, 1, none⟩ = some (.string (B 11))
  tab : Tab wx
  below : Below w.heap.size w wx
  size : g + 1 < wx.heap.size
theorem AwAt.next {w wx w' : World} {g : Nat} (h : AwAt w g wx) (hb : Below wx.heap.size wx w') : AwAt w g w' := by
  have hz := h.size
  exact ⟨(hb.cell (p := ⟨g, 0, none⟩) (by show g < _; omega)).trans h.c0, (hb.cell (p := ⟨g, 1, none⟩) (by show g < _; omega)).trans h.c1, (hb.cell (p := ⟨g + 1, 0, none⟩) hz).trans h.d0, (hb.cell (p := ⟨g + 1, 1, none⟩) hz).trans h.d1, h.tab.below hb, below2 h.below hb, by have := hb.size; omega⟩
theorem gen_lit (n : Nat) (b : Bool) (hb : isGenS (B 77) (B 0) (B 7) (B 11) (B n) = (b, 0)) (w : World) (hT : Tab w) :
    Calls Tryd.prog 14 #[.agg #[.string (B 77), .string ⟨#[]⟩], .agg #[.string (B 7), .string (B 11)], .string (B n)] w fun e w' => e = .returned (.tuple #[.bool b, .int .i64 0]) ∧ Below w.heap.size w w' := by
  have := rsagroup_IsGenerator (B 77) (B 0) (B 7) (B 11) (B n) w (B_size_le'.2 (by decide)) hT
  rw [hb] at this
  exact this
theorem issq_lit (n : Nat) (b : Bool) (hb : isSquareS (B 77) (B 0) (B 7) (B 11) (B n) = (b, 0)) (w : World) (hT : Tab w) :
    Calls Tryd.prog 10 #[.agg #[.string (B 77), .string ⟨#[]⟩], .agg #[.string (B 7), .string (B 11)], .string (B n)] w fun e w' => e = .returned (.tuple #[.bool b, .int .i64 0]) ∧ Below w.heap.size w w' := by
  have := rsagroup_IsSquare (B 77) (B 0) (B 7) (B 11) (B n) w (B_size_le'.2 (by decide)) hT
  rw [hb] at this
  exact this
theorem log_lit (w : World) :
    Calls Tryd.prog 24 #[.agg #[.string (B 77), .string ⟨#[]⟩], .string (B 4), .string (B 64), .int .i64 20] w fun e w' => e = .returned (.tuple #[.int .i64 3, .bool true]) ∧ Below w.heap.size w w' := by
  have := rsagroup_Log (B 77) (B 0) (B 4) (B 64) 20 w (B_size_le'.2 (by decide)) (by decide)
  rw [l77] at this
  exact this
theorem check_lit (w : World) (hT : Tab w) :
    Calls Tryd.prog 6 #[.agg #[.string (B 77), .string ⟨#[]⟩], .agg #[.string (B 7), .string (B 11)]] w fun e w' => e = .returned (.int .i64 0) ∧ Below w.heap.size w w' := by
  have := rsagroup_Check (B 77) (B 0) (B 7) (B 11) w (B_size_le'.2 (by decide)) hT
  rw [c77] at this
  exact this
theorem law10_awake (w : World) (hT : Tab w) :
    Calls Tryd.prog 8 #[] w fun e w' => e = .returned (.bool true) ∧ Below w.heap.size w w' := by
  have HT := Lib.hid hT
  have HG4 := Lib.hid (gen_lit 4 true g77_4)
  have HG36 := Lib.hid (gen_lit 36 false g77_36)
  have HS2 := Lib.hid (issq_lit 2 false s77_2)
  clear hT
  go_enter Tryd.func8, Tryd.ntmps8
  go_upto_region 2 with (go_at_call 22; refine (law10_small _).mono ?_; rintro e w1 ⟨rfl, hb1⟩)
  have H1 : AwAt w w1.heap.size ((w1.alloc (.cells #[.string (B 77), .string ⟨#[]⟩] 24)).alloc (.cells #[.string (B 7), .string (B 11)] 26)) :=
    ⟨by simp [go_sem], by simp [go_sem], by simp [go_sem], by simp [go_sem], ((HT.out.below hb1).alloc _).alloc _, (hb1.alloc hb1.size _).alloc (by have := hb1.size; simp; omega) _, by simp⟩
  obtain ⟨g, hg⟩ : ∃ g, w1.heap.size = g := ⟨_, rfl⟩
  obtain ⟨W1, hW1⟩ : ∃ W1, ((w1.alloc (.cells #[.string (B 77), .string ⟨#[]⟩] 24)).alloc (.cells #[.string (B 7), .string (B 11)] 26)) = W1 := ⟨_, rfl⟩
  rw [hg, hW1] at H1
  rw [hW1, hg]
  have HA := Lib.hid H1
  clear H1 hg hW1 hb1 HT
  go_upto_region 2 with fail
  go_cut [3, 4] (fun a0 a1 wx => a0 = .string (B 15) ∧ a1 = .int .i64 0 ∧ AwAt w g wx)
  case first =>
    have c0 := HA.out.c0
    have c1 := HA.out.c1
    have d0 := HA.out.d0
    have d1 := HA.out.d1
    have hz := HA.out.size
    have hz2 : g < W1.heap.size := by omega
    go_wp2_with (first | (go_at_call 12; refine (order_lit _ HA.out.tab).mono ?_; rintro e w2 ⟨rfl, hbl⟩))
    go_meet
    exact ⟨rfl, rfl, HA.out.next hbl⟩
  case rest =>
  obtain ⟨rfl, rfl, hcut⟩ := hcut
  have HA := Lib.hid hcut
  clear hcut
  go_upto_region 3 with fail
  go_cut [5, 6] (fun a0 a1 wx => a0 = .bool true ∧ a1 = .int .i64 0 ∧ AwAt w g wx)
  case first =>
    have c0 := HA.out.c0
    have c1 := HA.out.c1
    have d0 := HA.out.d0
    have d1 := HA.out.d1
    have hz := HA.out.size
    have hz2 : g < wc.heap.size := by omega
    go_region_held3 (fun w' => w'.cell? ⟨g, 0, none⟩ = some (.string (B 77)) ∧ w'.cell? ⟨g, 1, none⟩ = some (.string ⟨#[]⟩) ∧ w'.cell? ⟨g + 1, 0, none⟩ = some (.string (B 7)) ∧ w'.cell? ⟨g + 1, 1, none⟩ = some (.string (B 11))) (first | go_keep) (first | (go_at_call 13; (with_reducible refine (natural_Of' 4 4 _ rfl (by decide)).mono ?_); rintro e w5 ⟨rfl, hb5'⟩; have hb5 : Below wc.heap.size wc w5 := by { first | exact hb5' | exact ((Below.refl _ wc).drew).trans hb5' }; have n5 := HA.out.next hb5; have p05 := n5.c0; have p15 := n5.c1; have p25 := n5.d0; have p35 := n5.d1; have hT5 := Lib.hid n5.tab; clear n5) | (go_at_call 14; refine (HG4.out _ hT5.out).mono ?_; rintro e w6 ⟨rfl, hb6'⟩; have hbl : Below wc.heap.size wc w6 := by { first | exact below2 hb5 hb6' | exact below2 hb5 (((Below.refl _ _).drew).trans hb6') }; have n6 := HA.out.next hbl; have r0 := n6.c0; have r1 := n6.c1; have r2 := n6.d0; have r3 := n6.d1; clear n6))
    all_goals
      go_wp2_with fail
      go_meet
      exact ⟨rfl, rfl, HA.out.next hbl⟩
  case rest =>
  obtain ⟨rfl, rfl, hcut⟩ := hcut
  have HA := Lib.hid hcut
  clear hcut
  go_upto_region 4 with fail
  go_cut [7, 8] (fun a0 a1 wx => a0 = .bool false ∧ a1 = .int .i64 0 ∧ AwAt w g wx)
  case first =>
    have c0 := HA.out.c0
    have c1 := HA.out.c1
    have d0 := HA.out.d0
    have d1 := HA.out.d1
    have hz := HA.out.size
    have hz2 : g < wc.heap.size := by omega
    go_region_held3 (fun w' => w'.cell? ⟨g, 0, none⟩ = some (.string (B 77)) ∧ w'.cell? ⟨g, 1, none⟩ = some (.string ⟨#[]⟩) ∧ w'.cell? ⟨g + 1, 0, none⟩ = some (.string (B 7)) ∧ w'.cell? ⟨g + 1, 1, none⟩ = some (.string (B 11))) (first | go_keep) (first | (go_at_call 13; (with_reducible refine (natural_Of' 36 36 _ rfl (by decide)).mono ?_); rintro e w5 ⟨rfl, hb5'⟩; have hb5 : Below wc.heap.size wc w5 := by { first | exact hb5' | exact ((Below.refl _ wc).drew).trans hb5' }; have n5 := HA.out.next hb5; have p05 := n5.c0; have p15 := n5.c1; have p25 := n5.d0; have p35 := n5.d1; have hT5 := Lib.hid n5.tab; clear n5) | (go_at_call 14; refine (HG36.out _ hT5.out).mono ?_; rintro e w6 ⟨rfl, hb6'⟩; have hbl : Below wc.heap.size wc w6 := by { first | exact below2 hb5 hb6' | exact below2 hb5 (((Below.refl _ _).drew).trans hb6') }; have n6 := HA.out.next hbl; have r0 := n6.c0; have r1 := n6.c1; have r2 := n6.d0; have r3 := n6.d1; clear n6))
    all_goals
      go_wp2_with fail
      go_meet
      exact ⟨rfl, rfl, HA.out.next hbl⟩
  case rest =>
  obtain ⟨rfl, rfl, hcut⟩ := hcut
  have HA := Lib.hid hcut
  clear hcut
  go_upto_region 5 with fail
  go_cut [9, 10] (fun a0 a1 wx => a0 = .bool false ∧ a1 = .int .i64 0 ∧ AwAt w g wx)
  case first =>
    have c0 := HA.out.c0
    have c1 := HA.out.c1
    have d0 := HA.out.d0
    have d1 := HA.out.d1
    have hz := HA.out.size
    have hz2 : g < wc.heap.size := by omega
    go_region_held3 (fun w' => w'.cell? ⟨g, 0, none⟩ = some (.string (B 77)) ∧ w'.cell? ⟨g, 1, none⟩ = some (.string ⟨#[]⟩) ∧ w'.cell? ⟨g + 1, 0, none⟩ = some (.string (B 7)) ∧ w'.cell? ⟨g + 1, 1, none⟩ = some (.string (B 11))) (first | go_keep) (first | (go_at_call 13; (with_reducible refine (natural_Of' 2 2 _ rfl (by decide)).mono ?_); rintro e w5 ⟨rfl, hb5'⟩; have hb5 : Below wc.heap.size wc w5 := by { first | exact hb5' | exact ((Below.refl _ wc).drew).trans hb5' }; have n5 := HA.out.next hb5; have p05 := n5.c0; have p15 := n5.c1; have p25 := n5.d0; have p35 := n5.d1; have hT5 := Lib.hid n5.tab; clear n5) | (go_at_call 10; refine (HS2.out _ hT5.out).mono ?_; rintro e w6 ⟨rfl, hb6'⟩; have hbl : Below wc.heap.size wc w6 := by { first | exact below2 hb5 hb6' | exact below2 hb5 (((Below.refl _ _).drew).trans hb6') }; have n6 := HA.out.next hbl; have r0 := n6.c0; have r1 := n6.c1; have r2 := n6.d0; have r3 := n6.d1; clear n6))
    all_goals
      go_wp2_with fail
      go_meet
      exact ⟨rfl, rfl, HA.out.next hbl⟩
  case rest =>
  obtain ⟨rfl, rfl, hcut⟩ := hcut
  have HA := Lib.hid hcut
  clear hcut
  go_upto_region 6 with fail
  go_cut [11, 12] (fun a0 a1 wx => a0 = .string (B 53) ∧ a1 = .int .i64 0 ∧ AwAt w g wx)
  case first =>
    have c0 := HA.out.c0
    have c1 := HA.out.c1
    have d0 := HA.out.d0
    have d1 := HA.out.d1
    have hz := HA.out.size
    have hz2 : g < wc.heap.size := by omega
    go_region_held3 (fun w' => w'.cell? ⟨g, 0, none⟩ = some (.string (B 77)) ∧ w'.cell? ⟨g, 1, none⟩ = some (.string ⟨#[]⟩) ∧ w'.cell? ⟨g + 1, 0, none⟩ = some (.string (B 7)) ∧ w'.cell? ⟨g + 1, 1, none⟩ = some (.string (B 11))) (first | go_keep) (first | (go_at_call 13; (with_reducible refine (natural_Of' 4 4 _ rfl (by decide)).mono ?_); rintro e w5 ⟨rfl, hb5'⟩; have hb5 : Below wc.heap.size wc w5 := by { first | exact hb5' | exact ((Below.refl _ wc).drew).trans hb5' }; have n5 := HA.out.next hb5; have p05 := n5.c0; have p15 := n5.c1; have p25 := n5.d0; have p35 := n5.d1; have hT5 := Lib.hid n5.tab; clear n5) | (go_at_call 13; (with_reducible refine (natural_Of' 7 7 _ rfl (by decide)).mono ?_); rintro e w6 ⟨rfl, hb6'⟩; have hb6 : Below wc.heap.size wc w6 := by { first | exact below2 hb5 hb6' | exact below2 hb5 (((Below.refl _ _).drew).trans hb6') }; have n6 := HA.out.next hb6; have p06 := n6.c0; have p16 := n6.c1; have p26 := n6.d0; have p36 := n6.d1; have hT6 := Lib.hid n6.tab; clear n6) | (go_at_call 23; refine (rsagroup_Root_7 _ hT6.out).mono ?_; rintro e w7 ⟨rfl, hb7'⟩; have hbl : Below wc.heap.size wc w7 := by { first | exact below2 hb6 hb7' | exact below2 hb6 (((Below.refl _ _).drew).trans hb7') }; have n7 := HA.out.next hbl; have r0 := n7.c0; have r1 := n7.c1; have r2 := n7.d0; have r3 := n7.d1; clear n7))
    all_goals
      go_wp2_with fail
      go_meet
      exact ⟨rfl, rfl, HA.out.next hbl⟩
  case rest =>
  obtain ⟨rfl, rfl, hcut⟩ := hcut
  have HA := Lib.hid hcut
  clear hcut
  go_upto_region 7 with fail
  go_cut [13, 14] (fun a0 a1 wx => a0 = .string ⟨#[]⟩ ∧ a1 = .int .i64 9 ∧ AwAt w g wx)
  case first =>
    have c0 := HA.out.c0
    have c1 := HA.out.c1
    have d0 := HA.out.d0
    have d1 := HA.out.d1
    have hz := HA.out.size
    have hz2 : g < wc.heap.size := by omega
    go_region_held3 (fun w' => w'.cell? ⟨g, 0, none⟩ = some (.string (B 77)) ∧ w'.cell? ⟨g, 1, none⟩ = some (.string ⟨#[]⟩) ∧ w'.cell? ⟨g + 1, 0, none⟩ = some (.string (B 7)) ∧ w'.cell? ⟨g + 1, 1, none⟩ = some (.string (B 11))) (first | go_keep) (first | (go_at_call 13; (with_reducible refine (natural_Of' 4 4 _ rfl (by decide)).mono ?_); rintro e w5 ⟨rfl, hb5'⟩; have hb5 : Below wc.heap.size wc w5 := by { first | exact hb5' | exact ((Below.refl _ wc).drew).trans hb5' }; have n5 := HA.out.next hb5; have p05 := n5.c0; have p15 := n5.c1; have p25 := n5.d0; have p35 := n5.d1; have hT5 := Lib.hid n5.tab; clear n5) | (go_at_call 13; (with_reducible refine (natural_Of' 3 3 _ rfl (by decide)).mono ?_); rintro e w6 ⟨rfl, hb6'⟩; have hb6 : Below wc.heap.size wc w6 := by { first | exact below2 hb5 hb6' | exact below2 hb5 (((Below.refl _ _).drew).trans hb6') }; have n6 := HA.out.next hb6; have p06 := n6.c0; have p16 := n6.c1; have p26 := n6.d0; have p36 := n6.d1; have hT6 := Lib.hid n6.tab; clear n6) | (go_at_call 23; refine (rsagroup_Root_3 _ hT6.out).mono ?_; rintro e w7 ⟨rfl, hb7'⟩; have hbl : Below wc.heap.size wc w7 := by { first | exact below2 hb6 hb7' | exact below2 hb6 (((Below.refl _ _).drew).trans hb7') }; have n7 := HA.out.next hbl; have r0 := n7.c0; have r1 := n7.c1; have r2 := n7.d0; have r3 := n7.d1; clear n7))
    all_goals
      go_wp2_with fail
      go_meet
      exact ⟨rfl, rfl, HA.out.next hbl⟩
  case rest =>
  obtain ⟨rfl, rfl, hcut⟩ := hcut
  have HA := Lib.hid hcut
  clear hcut
  go_upto_region 8 with fail
  go_cut [15, 16] (fun a0 a1 wx => a0 = .int .i64 3 ∧ a1 = .bool true ∧ AwAt w g wx)
  case first =>
    have c0 := HA.out.c0
    have c1 := HA.out.c1
    have d0 := HA.out.d0
    have d1 := HA.out.d1
    have hz := HA.out.size
    have hz2 : g < wc.heap.size := by omega
    go_region_held3 (fun w' => w'.cell? ⟨g, 0, none⟩ = some (.string (B 77)) ∧ w'.cell? ⟨g, 1, none⟩ = some (.string ⟨#[]⟩)) (first | go_keep) (first | (go_at_call 13; (with_reducible refine (natural_Of' 4 4 _ rfl (by decide)).mono ?_); rintro e w5 ⟨rfl, hb5'⟩; have hb5 : Below wc.heap.size wc w5 := by { first | exact hb5' | exact ((Below.refl _ wc).drew).trans hb5' }; have n5 := HA.out.next hb5; have p05 := n5.c0; have p15 := n5.c1; have p25 := n5.d0; have p35 := n5.d1; have hT5 := Lib.hid n5.tab; clear n5) | (go_at_call 13; (with_reducible refine (natural_Of' 64 64 _ rfl (by decide)).mono ?_); rintro e w6 ⟨rfl, hb6'⟩; have hb6 : Below wc.heap.size wc w6 := by { first | exact below2 hb5 hb6' | exact below2 hb5 (((Below.refl _ _).drew).trans hb6') }; have n6 := HA.out.next hb6; have p06 := n6.c0; have p16 := n6.c1; have p26 := n6.d0; have p36 := n6.d1; have hT6 := Lib.hid n6.tab; clear n6) | (go_at_call 24; refine (log_lit _).mono ?_; rintro e w7 ⟨rfl, hb7'⟩; have hbl : Below wc.heap.size wc w7 := by { first | exact below2 hb6 hb7' | exact below2 hb6 (((Below.refl _ _).drew).trans hb7') }; have n7 := HA.out.next hbl; have r0 := n7.c0; have r1 := n7.c1; have r2 := n7.d0; have r3 := n7.d1; clear n7))
    all_goals
      go_wp2_with fail
      go_meet
      exact ⟨rfl, rfl, HA.out.next hbl⟩
  case rest =>
  obtain ⟨rfl, rfl, hcut⟩ := hcut
  have HA := Lib.hid hcut
  clear hcut
  have c0 := HA.out.c0
  have c1 := HA.out.c1
  have d0 := HA.out.d0
  have d1 := HA.out.d1
  have k15 : ((B 15).toList == (B 15).toList) = true := by simp
  have k53 : ((B 53).toList == (B 53).toList) = true := by simp
  go_wp2_with (first | (go_at_call 6; refine (check_lit _ HA.out.tab).mono ?_; rintro e w5 ⟨rfl, hb5⟩) | (go_at_call 13; (with_reducible refine (natural_Of' 15 15 _ rfl (by decide)).mono ?_); rintro e w6 ⟨rfl, hb6⟩) | (go_at_call 13; (with_reducible refine (natural_Of' 53 53 _ rfl (by decide)).mono ?_); rintro e w7 ⟨rfl, hb7⟩))
  go_ret
  exact ⟨rfl, below2 (below2 (below2 HA.out.below hb5) hb6) hb7⟩

end Go.Proofs.YtgbkjicpmjncaaaDoor
