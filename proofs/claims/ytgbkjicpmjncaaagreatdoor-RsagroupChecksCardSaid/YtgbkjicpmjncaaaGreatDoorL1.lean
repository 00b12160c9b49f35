/- The law RsagroupChecks returns true. -/
import Derived.Test.YtgbkjicpmjncaaaGreatDoorA2
import Derived.Test.YtgbkjicpmjncaaaGreatDoorRG
import Derived.Deep.RegionHeld3
namespace Go.Proofs.YtgbkjicpmjncaaaGreatDoor
open Go.RowKit
set_option maxRecDepth 100000
set_option linter.unusedVariables false
set_option maxHeartbeats 4000000

theorem few4 {m o p q : ByteArray} (h : fewS [m, o, p, q] = true) : m.size ≤ 8 ∧ o.size ≤ 8 ∧ p.size ≤ 8 ∧ q.size ≤ 8 := by
  unfold fewS at h
  simp only [List.all_cons, List.all_nil, Bool.and_true, Bool.and_eq_true, decide_eq_true_eq] at h
  exact ⟨h.1, h.2.1, h.2.2.1, h.2.2.2⟩
/-- The boxes of the law's arguments. -/
structure LawAt (w : World) (m o p q : ByteArray) (wx : World) : Prop where
  c0 : wx.cell? ⟨w.heap.size, 0, none⟩ = some (.string m)
  c1 : wx.cell? ⟨w.heap.size, 1, none⟩ = some (.string o)
  d0 : wx.cell? ⟨w.heap.size + 1, 0, none⟩ = some (.string p)
  d1 : wx.cell? ⟨w.heap.size + 1, 1, none⟩ = some (.string q)
  tab : Tab wx
  below : Below w.heap.size w wx
  size : w.heap.size + 1 < wx.heap.size
theorem LawAt.next {w wx w' : World} {m o p q : ByteArray} (h : LawAt w m o p q wx) (hb : Below wx.heap.size wx w') : LawAt w m o p q w' := by
  have hz := h.size
  exact ⟨(hb.cell (p := ⟨w.heap.size, 0, none⟩) (by show w.heap.size < _; omega)).trans h.c0, (hb.cell (p := ⟨w.heap.size, 1, none⟩) (by show w.heap.size < _; omega)).trans h.c1, (hb.cell (p := ⟨w.heap.size + 1, 0, none⟩) hz).trans h.d0, (hb.cell (p := ⟨w.heap.size + 1, 1, none⟩) hz).trans h.d1, h.tab.below hb, below2 h.below hb, by have := hb.size; omega⟩
theorem Tab.drew {w : World} (h : Tab w) : Tab w.drew := h.below ((Below.refl _ _).drew)
theorem law_checks (m o p q x : ByteArray) (w : World) (hT : Tab w) :
    Calls Tryz.prog 3 #[.agg #[.string m, .string o], .agg #[.string p, .string q], .string x] w fun e w' => e = .returned (.bool true) ∧ Below w.heap.size w w' := by
  have hst : LawAt w m o p q (((w.alloc (.cells #[.string m, .string o] 24)).alloc (.cells #[.string p, .string q] 26)).alloc (.cells #[.string m, .string o, .string p, .string q] 22)) :=
    ⟨by simp [go_sem], by simp [go_sem], by simp [go_sem], by simp [go_sem], ((hT.alloc _).alloc _).alloc _, (((Below.refl _ _).alloc (Nat.le_refl _) _).alloc (by simp) _).alloc (by simp; omega) _, by simp⟩
  have hrow : SRow (((w.alloc (.cells #[.string m, .string o] 24)).alloc (.cells #[.string p, .string q] 26)).alloc (.cells #[.string m, .string o, .string p, .string q] 22)) (w.heap.size + 1 + 1) [m, o, p, q] := by
    have := SRow.new ((w.alloc (.cells #[.string m, .string o] 24)).alloc (.cells #[.string p, .string q] 26)) 22 [m, o, p, q]
    simp only [World.size_alloc] at this
    exact this
  have HS := Lib.hid hst
  have HFW := Lib.hid (law10_few [m, o, p, q] 4 (w.heap.size + 1 + 1) _ rfl (by decide) hrow)
  have HAW := Lib.hid law10_awake
  clear hst hrow hT
  cases hf : fewS [m, o, p, q]
  · rw [hf] at HFW
    clear hf
    go_enter Tryz.func3, Tryz.ntmps3
    go_wp2_with (first | (go_at_call 5; refine HFW.out.mono ?_; rintro e w' ⟨rfl, rfl⟩) | (go_at_call 6; refine (HAW.out _ HS.out.tab).mono ?_; rintro e w1 ⟨rfl, hb1⟩))
    go_ret
    exact ⟨rfl, (HS.out.next hb1).below⟩
  · rw [hf] at HFW
    obtain ⟨s1, s2, s3, s4⟩ := few4 hf
    clear hf
    by_cases hx : x.size ≤ 20
    · have k1 : decide ((20 : Int) < (x.size : Int)) = false := by simp; omega
      have HO1 := Lib.hid (fun w hT => rsagroup_Order p q w hT)
      have HO2 := Lib.hid (fun w => r10_Order p q w)
      have HC1 := Lib.hid (fun w hT => rsagroup_Check m o p q w s1 hT)
      have HC2 := Lib.hid (fun w => r10_Check m o p q w s1)
      have HH1 := Lib.hid (fun w => rsagroup_Has m o x w s1)
      have HH2 := Lib.hid (fun w => r10_Has m o x w s1)
      generalize (orderS p q).1 = os at *
      generalize (orderS p q).2 = oe at *
      generalize checkS m o p q = ck at *
      generalize hasS m o x = hs at *
      have k2 : (os.toList == os.toList) = true := by simp
      have k3 : (oe == oe) = true := by simp
      have k4 : (ck == ck) = true := by simp
      have k5 : (hs == hs) = true := by simp
      go_enter Tryz.func3, Tryz.ntmps3
      go_upto_region 5 with (first | (go_at_call 5; refine HFW.out.mono ?_; rintro e w' ⟨rfl, rfl⟩) | (go_at_call 7; refine (HO1.out _ HS.out.tab).mono ?_; rintro e w1 ⟨rfl, hb1⟩; have n1 := HS.out.next hb1; have p0 := n1.d0; have p1 := n1.d1; have H1 := Lib.hid n1; clear n1) | (go_at_call 8; refine (HO2.out _).mono ?_; rintro e w2 ⟨rfl, hb2⟩; have n2 := H1.out.next hb2; have c0 := n2.c0; have c1 := n2.c1; have d0 := n2.d0; have d1 := n2.d1; have H2 := Lib.hid n2; clear n2))
      go_region_held3 (fun w' => w'.cell? ⟨w.heap.size, 0, none⟩ = some (.string m) ∧ w'.cell? ⟨w.heap.size, 1, none⟩ = some (.string o) ∧ w'.cell? ⟨w.heap.size + 1, 0, none⟩ = some (.string p) ∧ w'.cell? ⟨w.heap.size + 1, 1, none⟩ = some (.string q)) (first | go_keep)
        (first | (go_at_call 6; refine (HAW.out _ (by first | exact H2.out.tab | exact H2.out.tab.drew)).mono ?_; rintro e w3 ⟨rfl, hb3'⟩; have hb3 : Below w2.heap.size w2 w3 := by { first | exact hb3' | exact ((Below.refl _ w2).drew).trans hb3' }; have n3 := H2.out.next hb3; have q30 := n3.c0; have q31 := n3.c1; have q32 := n3.d0; have q33 := n3.d1; have H3 := Lib.hid n3; clear n3) | (go_at_call 9; refine (HC1.out _ (by first | exact H3.out.tab | exact H3.out.tab.drew)).mono ?_; rintro e w4 ⟨rfl, hb4'⟩; have hb4 : Below w2.heap.size w2 w4 := by { first | exact below2 hb3 hb4' | exact below2 hb3 (((Below.refl _ _).drew).trans hb4') }; have n4 := H2.out.next hb4; have q40 := n4.c0; have q41 := n4.c1; have q42 := n4.d0; have q43 := n4.d1; have H4 := Lib.hid n4; clear n4) | (go_at_call 10; refine (HC2.out _).mono ?_; rintro e w5 ⟨rfl, hb5'⟩; have hb5 : Below w2.heap.size w2 w5 := by { first | exact below2 hb4 hb5' | exact below2 hb4 (((Below.refl _ _).drew).trans hb5') }; have n5 := H2.out.next hb5; have q50 := n5.c0; have q51 := n5.c1; have q52 := n5.d0; have q53 := n5.d1; have H5 := Lib.hid n5; clear n5) | (go_at_call 11; refine (HH1.out _).mono ?_; rintro e w6 ⟨rfl, hb6'⟩; have hb6 : Below w2.heap.size w2 w6 := by { first | exact below2 hb5 hb6' | exact below2 hb5 (((Below.refl _ _).drew).trans hb6') }; have n6 := H2.out.next hb6; have q60 := n6.c0; have q61 := n6.c1; have q62 := n6.d0; have q63 := n6.d1; have H6 := Lib.hid n6; clear n6) | (go_at_call 12; refine (HH2.out _).mono ?_; rintro e w7 ⟨rfl, hb7'⟩; have hb7 : Below w2.heap.size w2 w7 := by { first | exact below2 hb6 hb7' | exact below2 hb6 (((Below.refl _ _).drew).trans hb7') }; have n7 := H2.out.next hb7; have q70 := n7.c0; have q71 := n7.c1; have q72 := n7.d0; have q73 := n7.d1; have H7 := Lib.hid n7; clear n7))
      all_goals
        go_wp2_with fail
        go_ret
        exact ⟨rfl, H7.out.below⟩
    · have k1 : decide ((20 : Int) < (x.size : Int)) = true := by simp; omega
      go_enter Tryz.func3, Tryz.ntmps3
      go_wp2_with (first | (go_at_call 5; refine HFW.out.mono ?_; rintro e w' ⟨rfl, rfl⟩) | (go_at_call 6; refine (HAW.out _ HS.out.tab).mono ?_; rintro e w1 ⟨rfl, hb1⟩))
      go_ret
      exact ⟨rfl, (HS.out.next hb1).below⟩

end Go.Proofs.YtgbkjicpmjncaaaGreatDoor
