/- The law AccumulatorProves: the walk. -/
import Derived.Test.YtlppcnjaacbhpaaGreatDoorUE
import Derived.Deep.RegionHeld3
namespace Go.Proofs.YtlppcnjaacbhpaaGreatDoor
open Go.RowKit
set_option maxRecDepth 100000
set_option linter.unusedVariables false
set_option maxHeartbeats 4000000

theorem fewKeyS_m {m o u : ByteArray} (h : fewKeyS m o u = true) : m.size ≤ 8 := by
  unfold fewKeyS at h
  simp only [Bool.and_eq_true, decide_eq_true_eq] at h
  exact h.1
theorem fewLS_n {ls : List ByteArray} (h : fewLS ls = true) : ls.length ≤ 12 := by
  unfold fewLS at h
  simp only [Bool.and_eq_true, decide_eq_true_eq] at h
  exact h.2
theorem law_proves (kn z s r h : Value) (m o u : ByteArray) (ls : List ByteArray) (A : Option Addr) (n c : Nat) (w : World) (hT : Tab w) (hn : ls.length = n) (hm : n ≤ maxLen) (hs : SLs w w.heap.size A ls) :
    Calls Tryz.prog 6 #[.agg #[kn, .string m, .string o, z, s, r, .string u, h], .slice A n c] w fun e w' => e = .returned (.bool true) ∧ Below w.heap.size w w' := by
  have HB := Lib.hid (KbAt.box (kn := kn) (z := z) (s := s) (r := r) (h := h) (m := m) (o := o) (u := u) hT)
  have HN := Lib.hid hn
  have HS := Lib.hid hs
  have HFK := Lib.hid (fun w => law35_FewKey kn z s r h m o u w)
  have HFW := Lib.hid (fun w b hs => law35_few ls A n c b w hn hm hs)
  have HAW := Lib.hid law35_awake
  have HVA := Lib.hid (fun (sm : m.size ≤ 8) (hle : n ≤ 12) w hs => acc_Value kn z s r h m o u ls A n c w sm hn (by omega) hs)
  have HWI := Lib.hid (fun (sm : m.size ≤ 8) (hle : n ≤ 12) x w hs => acc_Witness kn z s r h m o u x ls A n c w sm hn (by omega) hs)
  have HAD := Lib.hid (fun (sm : m.size ≤ 8) acc x w => acc_Add kn z s r h m o u acc x w sm)
  have HCH := Lib.hid (fun (sm : m.size ≤ 8) acc x v w => acc_Check kn z s r h m o u acc x v w sm)
  obtain ⟨y0, y1, y2, y3, y4, y5, y6, y7⟩ := HB.out.all
  clear hT hn hs
  cases hk : fewKeyS m o u
  · rw [hk] at HFK
    clear hk
    go_enter Tryz.func6, Tryz.ntmps6
    go_wp2_with (first | (go_at_call 7; (with_reducible refine (HFK.out _).mono ?_); rintro e w1 ⟨rfl, hb1⟩; have H1 := Lib.hid (HB.out.next hb1); clear hb1) | (go_at_call 9; (with_reducible refine (HAW.out _ H1.out.tab).mono ?_); rintro e w2 ⟨rfl, hb2⟩))
    go_ret
    exact ⟨rfl, (H1.out.next hb2).below⟩
  · have hsm := fewKeyS_m hk
    rw [hk] at HFK
    clear hk
    cases hl : fewLS ls
    · rw [hl] at HFW
      clear hl
      go_enter Tryz.func6, Tryz.ntmps6
      go_wp2_with (first | (go_at_call 7; (with_reducible refine (HFK.out _).mono ?_); rintro e w1 ⟨rfl, hb1⟩; have H1 := Lib.hid (HB.out.next hb1); clear hb1) | (go_at_call 8; (with_reducible refine (HFW.out _ _ (H1.out.sls HS.out)).mono ?_); rintro e w' ⟨rfl, rfl⟩) | (go_at_call 9; (with_reducible refine (HAW.out _ H1.out.tab).mono ?_); rintro e w2 ⟨rfl, hb2⟩))
      go_ret
      exact ⟨rfl, (H1.out.next hb2).below⟩
    · have hn12 := fewLS_n hl
      rw [HN.out] at hn12
      rw [hl] at HFW
      clear hl
      have hr : valueS m o u ls = if readyS m o [u] ls = 0 then (if twiceB ls = true then (E0, 8) else (B (raiseN (num m) ls (num u)), 0)) else (E0, readyS m o [u] ls) := rfl
      by_cases hgood : readyS m o [u] ls = 0 ∧ twiceB ls = false
      · rw [if_pos hgood.1, if_neg (by rw [hgood.2]; simp)] at hr
        have HST := Lib.hid (fun k hk => proves_step (k := k) hsm hgood.1 hgood.2 hk)
        have hva := fun w hs => HVA.out hsm (by omega) w hs
        simp only [hr] at hva
        obtain ⟨Z, hZ⟩ : ∃ Z, raiseN (num m) ls (num u) = Z := ⟨_, rfl⟩
        rw [hZ] at hva HST
        have HV2 := Lib.hid hva
        clear hva hr hgood hZ hm
        go_enter Tryz.func6, Tryz.ntmps6
        go_wp2_with (first | (go_at_call 7; (with_reducible refine (HFK.out _).mono ?_); rintro e w1 ⟨rfl, hb1⟩; have n1 := HB.out.next hb1; obtain ⟨x0, x1, x2, x3, x4, x5, x6, x7⟩ := n1.all; have H1 := Lib.hid n1; clear n1 hb1) | (go_at_call 8; (with_reducible refine (HFW.out _ _ (H1.out.sls HS.out)).mono ?_); rintro e w' ⟨rfl, rfl⟩) | (go_at_call 10; (with_reducible refine (HV2.out _ (H1.out.sls HS.out)).mono ?_); rintro e w2 ⟨rfl, hb2⟩; have H2 := Lib.hid (H1.out.next hb2); clear hb2))
        go_loopw [7] (fun v wr => ∃ k : Nat, v = .int .i64 k ∧ k ≤ n ∧ KbAt w kn z s r h m o u wr) (fun v _ => n - (intOf v).toNat)
        case atStart => exact ⟨0, rfl, Nat.zero_le _, H2.out⟩
        case round =>
          obtain ⟨k, rfl, hk, hkb⟩ := hrel
          have HKB := Lib.hid hkb
          obtain ⟨x0, x1, x2, x3, x4, x5, x6, x7⟩ := hkb.all
          clear hkb
          by_cases hlt : k < n
          · obtain ⟨Wn, hw1, hw2, hw3⟩ := HST.out k (by rw [HN.out]; exact hlt)
            obtain ⟨ad, rfl, hc⟩ := (HKB.out.sls HS.out).at_ (k := k) (by rw [HN.out]; exact hlt)
            obtain ⟨x, hx⟩ : ∃ x, ls.getD k ByteArray.empty = x := ⟨_, rfl⟩
            rw [hx] at hc hw1 hw2 hw3
            have hwi := fun w hs => HWI.out hsm (by omega) x w hs
            have had := fun w => HAD.out hsm (B Wn) x w
            have hch := fun w => HCH.out hsm (B Z) x (B Wn) w
            simp only [hw1] at hwi
            simp only [hw2] at had
            simp only [hw3] at hch
            have HWI2 := Lib.hid hwi
            have HAD2 := Lib.hid had
            have HCH2 := Lib.hid hch
            have hadl : (ad.add k).block < w.heap.size := by
              obtain ⟨ad', e, hb, _⟩ := HS.out (by intro e; have := HN.out; rw [e] at this; simp at this; omega)
              injection e with e
              subst e
              unfold Addr.add
              split <;> exact hb
            have HC := Lib.hid (show ∀ w', KbAt w kn z s r h m o u w' → w'.cell? (ad.add k) = some (.string x) from fun w' hk' => by
              have e1 := hk'.below.cell hadl
              have e2 := HKB.out.below.cell hadl
              rw [e1, ← e2]; exact hc)
            clear hx hw1 hw2 hw3 hwi had hch hadl
            go_wp2_with fail
            go_region_held3 (fun w' => w'.cell? ⟨w.heap.size, 0, none⟩ = some (kn) ∧ w'.cell? ⟨w.heap.size, 1, none⟩ = some (.string m) ∧ w'.cell? ⟨w.heap.size, 2, none⟩ = some (.string o) ∧ w'.cell? ⟨w.heap.size, 3, none⟩ = some (z) ∧ w'.cell? ⟨w.heap.size, 4, none⟩ = some (s) ∧ w'.cell? ⟨w.heap.size, 5, none⟩ = some (r) ∧ w'.cell? ⟨w.heap.size, 6, none⟩ = some (.string u) ∧ w'.cell? ⟨w.heap.size, 7, none⟩ = some (h) ∧ w'.cell? (ad.add k) = some (.string x)) (first | go_keep) (first | (go_at_call 12; (first | (with_reducible refine (HWI2.out _ (HKB.out.sls HS.out)).mono ?_) | (with_reducible refine (HWI2.out _ (HKB.out.drew.sls HS.out)).mono ?_)); rintro e wv ⟨rfl, hb⟩; have n : KbAt w kn z s r h m o u wv := by { first | exact HKB.out.next hb | exact HKB.out.drew.next hb }; obtain ⟨x0, x1, x2, x3, x4, x5, x6, x7⟩ := n.all; have hcx := HC.out _ n; have K1 := Lib.hid n; clear n hb))
            all_goals
              go_wp2_with fail
              go_region_held3 (fun w' => w'.cell? ⟨w.heap.size, 0, none⟩ = some (kn) ∧ w'.cell? ⟨w.heap.size, 1, none⟩ = some (.string m) ∧ w'.cell? ⟨w.heap.size, 2, none⟩ = some (.string o) ∧ w'.cell? ⟨w.heap.size, 3, none⟩ = some (z) ∧ w'.cell? ⟨w.heap.size, 4, none⟩ = some (s) ∧ w'.cell? ⟨w.heap.size, 5, none⟩ = some (r) ∧ w'.cell? ⟨w.heap.size, 6, none⟩ = some (.string u) ∧ w'.cell? ⟨w.heap.size, 7, none⟩ = some (h) ∧ w'.cell? (ad.add k) = some (.string x)) (first | go_keep) (first | (go_at_call 21; (with_reducible refine (HAD2.out _).mono ?_); rintro e wv ⟨rfl, hb⟩; have n : KbAt w kn z s r h m o u wv := by { first | exact K1.out.next hb | exact K1.out.drew.next hb }; obtain ⟨x0, x1, x2, x3, x4, x5, x6, x7⟩ := n.all; have hcx := HC.out _ n; have K2 := Lib.hid n; clear n hb))
              all_goals
                go_wp2_with fail
                go_region_held3 (fun w' => w'.cell? ⟨w.heap.size, 0, none⟩ = some (kn) ∧ w'.cell? ⟨w.heap.size, 1, none⟩ = some (.string m) ∧ w'.cell? ⟨w.heap.size, 2, none⟩ = some (.string o) ∧ w'.cell? ⟨w.heap.size, 3, none⟩ = some (z) ∧ w'.cell? ⟨w.heap.size, 4, none⟩ = some (s) ∧ w'.cell? ⟨w.heap.size, 5, none⟩ = some (r) ∧ w'.cell? ⟨w.heap.size, 6, none⟩ = some (.string u) ∧ w'.cell? ⟨w.heap.size, 7, none⟩ = some (h) ∧ w'.cell? (ad.add k) = some (.string x)) (first | go_keep) (first | (go_at_call 20; (with_reducible refine (HCH2.out _).mono ?_); rintro e wv ⟨rfl, hb⟩; have n : KbAt w kn z s r h m o u wv := by { first | exact K2.out.next hb | exact K2.out.drew.next hb }; obtain ⟨x0, x1, x2, x3, x4, x5, x6, x7⟩ := n.all; have hcx := HC.out _ n; have K3 := Lib.hid n; clear n hb))
                all_goals
                  go_wp2_with fail
                  go_roundw
                  case rel => exact ⟨k + 1, rfl, hlt, K3.out⟩
                  case measure => simp only [intOf]; omega
          · have hkn : k = n := by omega
            subst hkn
            go_wp2_with (first | (go_at_call 9; (with_reducible refine (HAW.out _ HKB.out.tab).mono ?_); rintro e w2 ⟨rfl, hb2⟩))
            go_ret
            exact ⟨rfl, (HKB.out.next hb2).below⟩
      · have hbad : (valueS m o u ls).1 = E0 ∧ (valueS m o u ls).2 ≠ 0 := by
          rw [hr]
          split
          · rename_i h0
            split
            · exact ⟨rfl, by decide⟩
            · rename_i ht
              exact absurd ⟨h0, by simpa using ht⟩ hgood
          · rename_i h0
            exact ⟨rfl, h0⟩
        have hva := fun w hs => HVA.out hsm (by omega) w hs
        rw [hbad.1] at hva
        have hnb : ((valueS m o u ls).2 != 0) = true := by rw [bne_iff_ne]; exact hbad.2
        generalize (valueS m o u ls).2 = V2 at *
        have HV2 := Lib.hid hva
        have hE : (E0).toList.isEmpty = true := B_isEmpty_true
        clear hva hr hgood hbad hm
        go_enter Tryz.func6, Tryz.ntmps6
        go_wp2_with (first | (go_at_call 7; (with_reducible refine (HFK.out _).mono ?_); rintro e w1 ⟨rfl, hb1⟩; have n1 := HB.out.next hb1; obtain ⟨x0, x1, x2, x3, x4, x5, x6, x7⟩ := n1.all; have H1 := Lib.hid n1; clear n1 hb1) | (go_at_call 8; (with_reducible refine (HFW.out _ _ (H1.out.sls HS.out)).mono ?_); rintro e w' ⟨rfl, rfl⟩) | (go_at_call 10; (with_reducible refine (HV2.out _ (H1.out.sls HS.out)).mono ?_); rintro e w2 ⟨rfl, hb2⟩; have H2 := Lib.hid (H1.out.next hb2); clear hb2) | (go_at_call 9; (with_reducible refine (HAW.out _ H2.out.tab).mono ?_); rintro e w3 ⟨rfl, hb3⟩))
        go_ret
        exact ⟨rfl, (H2.out.next hb3).below⟩

end Go.Proofs.YtlppcnjaacbhpaaGreatDoor
