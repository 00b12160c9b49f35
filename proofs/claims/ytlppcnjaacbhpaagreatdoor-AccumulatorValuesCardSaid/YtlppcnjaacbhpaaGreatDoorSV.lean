/- The law AccumulatorValues: it returns true. -/
import Derived.Test.YtlppcnjaacbhpaaGreatDoorSm2
namespace Go.Proofs.YtlppcnjaacbhpaaGreatDoor
open Go.RowKit
set_option maxRecDepth 100000
set_option linter.unusedVariables false
set_option maxHeartbeats 2000000

theorem fewKeyS_m {m o u : ByteArray} (h : fewKeyS m o u = true) : m.size ≤ 8 := by
  unfold fewKeyS at h
  simp only [Bool.and_eq_true, decide_eq_true_eq] at h
  exact h.1
theorem fewLS_n {ls : List ByteArray} (h : fewLS ls = true) : ls.length ≤ 12 := by
  unfold fewLS at h
  simp only [Bool.and_eq_true, decide_eq_true_eq] at h
  exact h.2
theorem law_values (kn z s r h : Value) (m o u x : ByteArray) (ls : List ByteArray) (A : Option Addr) (n c : Nat) (w : World) (hT : Tab w) (hn : ls.length = n) (hm : n ≤ maxLen) (hnc : n ≤ c) (hs : SLs w w.heap.size A ls) :
    Calls Tryz.prog 3 #[.agg #[kn, .string m, .string o, z, s, r, .string u, h], .slice A n c, .string x] w fun e w' => e = .returned (.bool true) ∧ Below w.heap.size w w' := by
  have HB := Lib.hid (KbAt.box (kn := kn) (z := z) (s := s) (r := r) (h := h) (m := m) (o := o) (u := u) hT)
  have HN := Lib.hid hn
  have HS := Lib.hid hs
  have HFK := Lib.hid (fun w => law35_FewKey kn z s r h m o u w)
  have HFW := Lib.hid (fun w b hs => law35_few ls A n c b w hn hm hs)
  have HAW := Lib.hid law35_awake
  have HVA := Lib.hid (fun (sm : m.size ≤ 8) (hle : n ≤ 12) w hs => acc_Value kn z s r h m o u ls A n c w sm hn (by omega) hs)
  have HWI := Lib.hid (fun (sm : m.size ≤ 8) (hle : n ≤ 12) w hs => acc_Witness kn z s r h m o u x ls A n c w sm hn (by omega) hs)
  have HRV := Lib.hid (fun (sm : m.size ≤ 8) (hle : n ≤ 12) w hT hs => r35_Value kn z s r h m o u ls A n c w hT sm hn (by omega) hnc hs)
  have HRW := Lib.hid (fun (sm : m.size ≤ 8) (hle : n ≤ 12) w hT hs => r35_Witness kn z s r h m o u x ls A n c w hT sm hn (by omega) hnc hs)
  obtain ⟨y0, y1, y2, y3, y4, y5, y6, y7⟩ := HB.out.all
  clear hT hn hs
  cases hk : fewKeyS m o u
  · rw [hk] at HFK
    clear hk
    go_enter Tryz.func3, Tryz.ntmps3
    go_wp2_with (first | (go_at_call 7; (with_reducible refine (HFK.out _).mono ?_); rintro e w1 ⟨rfl, hb1⟩; have n1 := HB.out.next hb1; obtain ⟨x0, x1, x2, x3, x4, x5, x6, x7⟩ := n1.all; have H1 := Lib.hid n1; clear n1 hb1) | (go_at_call 9; (with_reducible refine (HAW.out _ H1.out.tab).mono ?_); rintro e w2 ⟨rfl, hb2⟩))
    go_ret
    exact ⟨rfl, (H1.out.next hb2).below⟩
  · have hsm := fewKeyS_m hk
    rw [hk] at HFK
    clear hk
    cases hl : fewLS ls
    · rw [hl] at HFW
      clear hl
      go_enter Tryz.func3, Tryz.ntmps3
      go_wp2_with (first | (go_at_call 7; (with_reducible refine (HFK.out _).mono ?_); rintro e w1 ⟨rfl, hb1⟩; have n1 := HB.out.next hb1; obtain ⟨x0, x1, x2, x3, x4, x5, x6, x7⟩ := n1.all; have H1 := Lib.hid n1; clear n1 hb1) | (go_at_call 8; (with_reducible refine (HFW.out _ _ (H1.out.sls HS.out)).mono ?_); rintro e w' ⟨rfl, rfl⟩) | (go_at_call 9; (with_reducible refine (HAW.out _ H1.out.tab).mono ?_); rintro e w2 ⟨rfl, hb2⟩))
      go_ret
      exact ⟨rfl, (H1.out.next hb2).below⟩
    · have hn12 := fewLS_n hl
      rw [HN.out] at hn12
      rw [hl] at HFW
      clear hl
      by_cases h8 : x.size ≤ 8
      · have k8 : decide ((8 : Int) < (x.size : Int)) = false := decide_eq_false (by omega)
        have hva := fun w hs => HVA.out hsm (by omega) w hs
        have hwi := fun w hs => HWI.out hsm (by omega) w hs
        have hrv := fun w hT hs => HRV.out hsm (by omega) w hT hs
        have hrw := fun w hT hs => HRW.out hsm (by omega) w hT hs
        obtain ⟨V1, hV1⟩ : ∃ V1, (valueS m o u ls).1 = V1 := ⟨_, rfl⟩
        obtain ⟨V2, hV2⟩ : ∃ V2, (valueS m o u ls).2 = V2 := ⟨_, rfl⟩
        obtain ⟨W1, hW1⟩ : ∃ W1, (witnessS m o u ls x).1 = W1 := ⟨_, rfl⟩
        obtain ⟨W2, hW2⟩ : ∃ W2, (witnessS m o u ls x).2 = W2 := ⟨_, rfl⟩
        rw [hV1, hV2] at hva hrv
        rw [hW1, hW2] at hwi hrw
        have HV := Lib.hid hva
        have HW := Lib.hid hwi
        have HR1 := Lib.hid hrv
        have HR2 := Lib.hid hrw
        have e1 : (V1.toList == V1.toList) = true := by simp
        have e2 : (V2 == V2) = true := by simp
        have e3 : (W1.toList == W1.toList) = true := by simp
        have e4 : (W2 == W2) = true := by simp
        clear hva hwi hrv hrw hV1 hV2 hW1 hW2 h8
        go_enter Tryz.func3, Tryz.ntmps3
        go_wp2_with (first | (go_at_call 7; (with_reducible refine (HFK.out _).mono ?_); rintro e w1 ⟨rfl, hb1⟩; have n1 := HB.out.next hb1; obtain ⟨x0, x1, x2, x3, x4, x5, x6, x7⟩ := n1.all; have H1 := Lib.hid n1; clear n1 hb1) | (go_at_call 8; (with_reducible refine (HFW.out _ _ (H1.out.sls HS.out)).mono ?_); rintro e w' ⟨rfl, rfl⟩) | (go_at_call 10; (with_reducible refine (HV.out _ (H1.out.sls HS.out)).mono ?_); rintro e w3 ⟨rfl, hb3⟩; have n3 := H1.out.next hb3; obtain ⟨x0, x1, x2, x3, x4, x5, x6, x7⟩ := n3.all; have H3 := Lib.hid n3; clear n3 hb3) | (go_at_call 11; (with_reducible refine (HR1.out _ H3.out.tab (H3.out.sls HS.out)).mono ?_); rintro e w4 ⟨rfl, hb4⟩; have n4 := H3.out.next hb4; obtain ⟨x0, x1, x2, x3, x4, x5, x6, x7⟩ := n4.all; have H4 := Lib.hid n4; clear n4 hb4) | (go_at_call 12; (with_reducible refine (HW.out _ (H4.out.sls HS.out)).mono ?_); rintro e w5 ⟨rfl, hb5⟩; have n5 := H4.out.next hb5; obtain ⟨x0, x1, x2, x3, x4, x5, x6, x7⟩ := n5.all; have H5 := Lib.hid n5; clear n5 hb5) | (go_at_call 13; (with_reducible refine (HR2.out _ H5.out.tab (H5.out.sls HS.out)).mono ?_); rintro e w6 ⟨rfl, hb6⟩; have n6 := H5.out.next hb6; obtain ⟨x0, x1, x2, x3, x4, x5, x6, x7⟩ := n6.all; have H6 := Lib.hid n6; clear n6 hb6) | (go_at_call 9; (with_reducible refine (HAW.out _ H6.out.tab).mono ?_); rintro e w7 ⟨rfl, hb7⟩))
        go_ret
        exact ⟨rfl, (H6.out.next hb7).below⟩
      · have k8 : decide ((8 : Int) < (x.size : Int)) = true := decide_eq_true (by omega)
        clear h8
        go_enter Tryz.func3, Tryz.ntmps3
        go_wp2_with (first | (go_at_call 7; (with_reducible refine (HFK.out _).mono ?_); rintro e w1 ⟨rfl, hb1⟩; have n1 := HB.out.next hb1; obtain ⟨x0, x1, x2, x3, x4, x5, x6, x7⟩ := n1.all; have H1 := Lib.hid n1; clear n1 hb1) | (go_at_call 8; (with_reducible refine (HFW.out _ _ (H1.out.sls HS.out)).mono ?_); rintro e w' ⟨rfl, rfl⟩) | (go_at_call 9; (with_reducible refine (HAW.out _ H1.out.tab).mono ?_); rintro e w2 ⟨rfl, hb2⟩))
        go_ret
        exact ⟨rfl, (H1.out.next hb2).below⟩

end Go.Proofs.YtlppcnjaacbhpaaGreatDoor
