/- The law RsagroupLogs returns true. -/
import Derived.Test.YtgbkjicpmjncaaaGreatDoorA2
import Derived.Test.YtgbkjicpmjncaaaGreatDoorRL
import Derived.Deep.RegionHeld3
import Derived.Deep.DeepCutAuto
import Derived.Deep.CutBlock
namespace Go.Proofs.YtgbkjicpmjncaaaGreatDoor
open Go.RowKit
set_option maxRecDepth 100000
set_option linter.unusedVariables false
set_option maxHeartbeats 4000000

theorem few2 {m o : ByteArray} (h : fewS [m, o] = true) : m.size ≤ 8 ∧ o.size ≤ 8 := by
  unfold fewS at h
  simp only [List.all_cons, List.all_nil, Bool.and_true, Bool.and_eq_true, decide_eq_true_eq] at h
  exact ⟨h.1, h.2⟩
/-- The copy of the group in memory. -/
structure LgAt (w : World) (m o : ByteArray) (G : Nat) (wx : World) : Prop where
  c0 : wx.cell? ⟨G, 0, none⟩ = some (.string m)
  c1 : wx.cell? ⟨G, 1, none⟩ = some (.string o)
  tab : Tab wx
  below : Below w.heap.size w wx
  sg : G < wx.heap.size
  sz : w.heap.size < wx.heap.size
theorem LgAt.next {w wx w' : World} {m o : ByteArray} {G : Nat} (h : LgAt w m o G wx) (hb : Below wx.heap.size wx w') : LgAt w m o G w' := by
  have hs := hb.size
  have h1 := h.sg
  have h3 := h.sz
  exact ⟨(hb.cell (p := ⟨G, 0, none⟩) h1).trans h.c0, (hb.cell (p := ⟨G, 1, none⟩) h1).trans h.c1, h.tab.below hb, below2 h.below hb, by omega, by omega⟩
theorem Tab.drew {w : World} (h : Tab w) : Tab w.drew := h.below ((Below.refl _ _).drew)

set_option maxHeartbeats 8000000 in
theorem law_logs (m o b x : ByteArray) (most : Int) (w : World) (hT : Tab w) (hmo : -9223372036854775808 ≤ most ∧ most ≤ 9223372036854775807) :
    Calls Tryz.prog 4 #[.agg #[.string m, .string o, .string b, .string x, .int .i64 most]] w fun r w' => r = .returned (.bool true) ∧ Below w.heap.size w w' := by
  have HT := Lib.hid hT
  have HAW := Lib.hid law10_awake
  clear hT
  go_enter Tryz.func4, Tryz.ntmps4
  go_upto_region 1 with fail
  go_cut [3, 4, 5, 6] (fun vg v4 v5 v6 wx => ∃ G : Nat, vg = .pointer (some ⟨G, 0, none⟩) ∧ v4 = .string b ∧ v5 = .string x ∧ v6 = .int .i64 most ∧ LgAt w m o G wx)
  case first =>
    go_region_held3 (fun w' => w'.cell? ⟨w.heap.size, 0, none⟩ = some (.string m) ∧ w'.cell? ⟨w.heap.size, 1, none⟩ = some (.string o) ∧ w'.cell? ⟨w.heap.size, 2, none⟩ = some (.string b) ∧ w'.cell? ⟨w.heap.size, 3, none⟩ = some (.string x) ∧ w'.cell? ⟨w.heap.size, 4, none⟩ = some (.int .i64 most)) (first | go_keep) (fail)
    all_goals
      go_wp2_with fail
      go_meet
      exact ⟨_, rfl, rfl, rfl, rfl, ⟨by simp [go_sem], by simp [go_sem], ((HT.out.alloc _).alloc _).drew, (((Below.refl _ _).alloc (Nat.le_refl _) _).alloc (by simp) _).drew, by simp; try omega, by simp; try omega⟩⟩
  case rest =>
    obtain ⟨G, rfl, rfl, rfl, rfl, hcl⟩ := hcut
    have hrow := SRow.new wc 22 [m, o]
    have hfew := law10_few [m, o] 2 wc.heap.size _ rfl (by decide) hrow
    have HC1 := Lib.hid (hcl.next ((Below.refl wc.heap.size wc).alloc (Nat.le_refl _) (.cells #[.string m, .string o] 22)))
    have HFW : Hid (Calls Tryz.prog 5 #[.slice (some ⟨wc.heap.size, 0, none⟩) 2 2] (wc.alloc (.cells #[.string m, .string o] 22)) fun e w' => e = .returned (.bool (fewS [m, o])) ∧ wc.alloc (.cells #[.string m, .string o] 22) = w') := Lib.hid hfew
    have c0 := hcl.c0
    have c1 := hcl.c1
    have sg := hcl.sg
    have sz := hcl.sz
    clear hcl hrow hfew HT
    cases hf : fewS [m, o]
    · rw [hf] at HFW
      clear hf
      go_wp2_with (first | (go_at_call 5; refine HFW.out.mono ?_; rintro e w' ⟨rfl, rfl⟩) | (go_at_call 6; refine (HAW.out _ HC1.out.tab).mono ?_; rintro e w9 ⟨rfl, hb9⟩))
      go_ret
      exact ⟨rfl, (HC1.out.next hb9).below⟩
    · rw [hf] at HFW
      obtain ⟨sm, so⟩ := few2 hf
      clear hf
      by_cases hb20 : b.size ≤ 20
      · have k1 : decide ((20 : Int) < (b.size : Int)) = false := by simp; omega
        by_cases hx20 : x.size ≤ 20
        · have k2 : decide ((20 : Int) < (x.size : Int)) = false := by simp; omega
          obtain ⟨md, hmd⟩ : ∃ md : Int, most.tmod 200 = md := ⟨_, rfl⟩
          have hcase : (decide (0 < most) = true ∧ md = most % 200 ∧ -9223372036854775808 ≤ md ∧ md ≤ 9223372036854775807) ∨ decide (0 < most) = false := by
            by_cases h : 0 < most
            · have h1 := Int.tmod_eq_emod_of_nonneg (a := most) (b := 200) (by omega)
              exact Or.inl ⟨decide_eq_true h, by omega, by omega, by omega⟩
            · exact Or.inr (decide_eq_false h)
          rcases hcase with ⟨kc, hmd2, hmdr⟩ | kc
          · have HL1 := Lib.hid (fun w => rsagroup_Log m o b x md w sm hmdr)
            have HL2 := Lib.hid (fun w => r10_Log m o b x md w sm hmdr)
            generalize (logS m o b x md).1 = lk at *
            generalize (logS m o b x md).2 = lo at *
            have q1 : (lk == lk) = true := by simp
            have q2 : (lo == lo) = true := by simp
            clear hmd2 hmdr hmo hb20 hx20 sm so
            go_wp2_with (first | (go_at_call 5; refine HFW.out.mono ?_; rintro e w' ⟨rfl, rfl⟩) | (go_at_call 13; (with_reducible refine (HL1.out _).mono ?_); rintro e w1 ⟨rfl, hb1⟩; have n1 := HC1.out.next hb1; have c01 := n1.c0; have c11 := n1.c1; have H1 := Lib.hid n1; clear n1) | (go_at_call 14; (with_reducible refine (HL2.out _).mono ?_); rintro e w2 ⟨rfl, hb2⟩; have n2 := H1.out.next hb2; have c02 := n2.c0; have c12 := n2.c1; have H2 := Lib.hid n2; clear n2) | (go_at_call 6; refine (HAW.out _ H2.out.tab).mono ?_; rintro e w9 ⟨rfl, hb9⟩))
            go_ret
            exact ⟨rfl, (H2.out.next hb9).below⟩
          · have HL1 := Lib.hid (fun w => rsagroup_Log m o b x most w sm hmo)
            have HL2 := Lib.hid (fun w => r10_Log m o b x most w sm hmo)
            generalize (logS m o b x most).1 = lk at *
            generalize (logS m o b x most).2 = lo at *
            have q1 : (lk == lk) = true := by simp
            have q2 : (lo == lo) = true := by simp
            clear hmo hb20 hx20 sm so hmd
            go_wp2_with (first | (go_at_call 5; refine HFW.out.mono ?_; rintro e w' ⟨rfl, rfl⟩) | (go_at_call 13; (with_reducible refine (HL1.out _).mono ?_); rintro e w1 ⟨rfl, hb1⟩; have n1 := HC1.out.next hb1; have c01 := n1.c0; have c11 := n1.c1; have H1 := Lib.hid n1; clear n1) | (go_at_call 14; (with_reducible refine (HL2.out _).mono ?_); rintro e w2 ⟨rfl, hb2⟩; have n2 := H1.out.next hb2; have c02 := n2.c0; have c12 := n2.c1; have H2 := Lib.hid n2; clear n2) | (go_at_call 6; refine (HAW.out _ H2.out.tab).mono ?_; rintro e w9 ⟨rfl, hb9⟩))
            go_ret
            exact ⟨rfl, (H2.out.next hb9).below⟩
        · have k2 : decide ((20 : Int) < (x.size : Int)) = true := by simp; omega
          go_wp2_with (first | (go_at_call 5; refine HFW.out.mono ?_; rintro e w' ⟨rfl, rfl⟩) | (go_at_call 6; refine (HAW.out _ HC1.out.tab).mono ?_; rintro e w9 ⟨rfl, hb9⟩))
          go_ret
          exact ⟨rfl, (HC1.out.next hb9).below⟩
      · have k1 : decide ((20 : Int) < (b.size : Int)) = true := by simp; omega
        go_wp2_with (first | (go_at_call 5; refine HFW.out.mono ?_; rintro e w' ⟨rfl, rfl⟩) | (go_at_call 6; refine (HAW.out _ HC1.out.tab).mono ?_; rintro e w9 ⟨rfl, hb9⟩))
        go_ret
        exact ⟨rfl, (HC1.out.next hb9).below⟩

end Go.Proofs.YtgbkjicpmjncaaaGreatDoor
