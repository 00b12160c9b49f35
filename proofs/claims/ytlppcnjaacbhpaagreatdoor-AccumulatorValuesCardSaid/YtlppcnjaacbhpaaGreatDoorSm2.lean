/- The reference of the accumulator: lists, ready, power. The reference of the accumulator: ready, power, Value. The reference of the accumulator: Value, Witness. The reference of the accumulator: Witness. -/
import Derived.Test.YtlppcnjaacbhpaaGreatDoorSm1
import Derived.Test.YtlppcnjaacbhpaaGreatDoorUm1
import Derived.Test.YtlppcnjaacbhpaaGreatDoorUm2
import Derived.Deep.RegionHeld3
namespace Go.Proofs.YtlppcnjaacbhpaaGreatDoor
open Go.RowKit
set_option maxRecDepth 100000
set_option linter.unusedVariables false
set_option maxHeartbeats 1000000

theorem r35_valid (ls : List ByteArray) (A : Option Addr) (n c b : Nat) (w : World) (hn : ls.length = n) (hm : n ≤ 1000) (h : SLs w b A ls) :
    Calls Tryz.prog 46 #[.slice A n c] w fun e w' => e = .returned (.bool (ls.all valid)) ∧ w = w' := by
  have HN := Lib.hid hn
  have HS := Lib.hid h
  clear hn h
  go_enter Tryz.func46, Tryz.ntmps46
  go_wp2
  go_loop [3] (fun c => ∃ k : Nat, k ≤ n ∧ c = .int .i64 k ∧ ∀ j, j < k → valid (ls.getD j ByteArray.empty) = true) (fun c => n - (intOf c).toNat)
  case atStart => exact ⟨0, by omega, rfl, fun j h => absurd h (by omega)⟩
  case round =>
    obtain ⟨k, hk, rfl, hall⟩ := hrel
    have HA := Lib.hid hall
    clear hall
    by_cases hlt : k < n
    · obtain ⟨ad, rfl, hc⟩ := HS.out.at_ (k := k) (by rw [HN.out]; exact hlt)
      obtain ⟨s, hs⟩ : ∃ s, ls.getD k ByteArray.empty = s := ⟨_, rfl⟩
      rw [hs] at hc
      have HSS := Lib.hid hs
      clear hs
      cases hv : valid s
      · have HF : Hid (ls.all valid = false) := Lib.hid (all_not' (k := k) (by rw [HN.out]; exact hlt) (by rw [HSS.out]; exact hv))
        go_wp2_with (go_at_call 31; refine (r01_Valid _ _).mono ?_; rintro e w' ⟨rfl, rfl⟩)
        go_ret
        exact ⟨ret_bool HF.out.symm, rfl⟩
      · have HV := Lib.hid hv
        clear hv
        have hck := r01_Valid s
        rw [HV.out] at hck
        have HCK := Lib.hid hck
        clear hck
        go_wp2_with (go_at_call 31; refine (HCK.out _).mono ?_; rintro e w' ⟨rfl, rfl⟩)
        go_round
        case rel => exact ⟨k + 1, by omega, by go_num, fun j hj => by
          by_cases e : j = k
          · subst e; rw [HSS.out]; exact HV.out
          · exact HA.out j (by omega)⟩
        case measure => simp [intOf]; omega
    · obtain rfl : k = n := by omega
      have HF : Hid (ls.all valid = true) := Lib.hid (all_of' (fun j hj => HA.out j (by rw [HN.out] at hj; exact hj)))
      go_wp2
      go_ret
      exact ⟨ret_bool HF.out.symm, rfl⟩
theorem r35_in (ls : List ByteArray) (x : ByteArray) (A : Option Addr) (n c b : Nat) (w : World) (hn : ls.length = n) (hm : n ≤ 1000) (h : SLs w b A ls) :
    Calls Tryz.prog 30 #[.slice A n c, .string x] w fun e w' => e = .returned (.bool (ls.any fun y => y.toList == x.toList)) ∧ w = w' := by
  have HN := Lib.hid hn
  have HS := Lib.hid h
  clear hn h
  go_enter Tryz.func30, Tryz.ntmps30
  go_wp2
  go_loop [5] (fun c => ∃ k : Nat, k ≤ n ∧ c = .int .i64 k ∧ ∀ j, j < k → ((ls.getD j ByteArray.empty).toList == x.toList) = false) (fun c => n - (intOf c).toNat)
  case atStart => exact ⟨0, by omega, rfl, fun j h => absurd h (by omega)⟩
  case round =>
    obtain ⟨k, hk, rfl, hall⟩ := hrel
    have HA := Lib.hid hall
    clear hall
    by_cases hlt : k < n
    · obtain ⟨ad, rfl, hc⟩ := HS.out.at_ (k := k) (by rw [HN.out]; exact hlt)
      obtain ⟨s, hs⟩ : ∃ s, ls.getD k ByteArray.empty = s := ⟨_, rfl⟩
      rw [hs] at hc
      have HSS := Lib.hid hs
      clear hs
      cases kb : (s.toList == x.toList)
      · have HB := Lib.hid kb
        go_wp2
        go_round
        case rel => exact ⟨k + 1, by omega, by go_num, fun j hj => by
          by_cases e : j = k
          · subst e; rw [HSS.out]; exact HB.out
          · exact HA.out j (by omega)⟩
        case measure => simp [intOf]; omega
      · have HF : Hid ((ls.any fun y => y.toList == x.toList) = true) := Lib.hid (any_at' (k := k) (by rw [HN.out]; exact hlt) (by rw [HSS.out]; exact kb))
        go_wp2
        go_ret
        exact ⟨ret_bool HF.out.symm, rfl⟩
    · obtain rfl : k = n := by omega
      have HF : Hid ((ls.any fun y => y.toList == x.toList) = false) := Lib.hid (any_none' (fun j hj => HA.out j (by rw [HN.out] at hj; exact hj)))
      go_wp2
      go_ret
      exact ⟨ret_bool HF.out.symm, rfl⟩
theorem SLs.take {w : World} {b : Nat} {A : Option Addr} {ls : List ByteArray} (h : SLs w b A ls) (k : Nat) : SLs w b A (ls.take k) := fun hne => by
  obtain ⟨ad, e, h1, h2⟩ := h (by intro e; rw [e] at hne; simp at hne)
  refine ⟨ad, e, h1, fun j hj => ?_⟩
  have hj' : j < ls.length := by rw [List.length_take] at hj; omega
  rw [h2 j hj', sgetD_lt hj', sgetD_lt hj, List.getElem_take]
theorem SLs.drewN {w : World} {b : Nat} {A : Option Addr} {ls : List ByteArray} (h : SLs w b A ls) (n : Nat) : SLs (w.drewN n) b A ls := h
theorem r35_twice (ls : List ByteArray) (A : Option Addr) (n c : Nat) (w : World) (hn : ls.length = n) (hm : n ≤ 1000) (hnc : n ≤ c) (h : SLs w w.heap.size A ls) :
    Calls Tryz.prog 28 #[.slice A n c] w fun e w' => e = .returned (.bool (twiceB ls)) ∧ Below w.heap.size w w' := by
  have HN := Lib.hid hn
  have HS := Lib.hid h
  clear hn h
  go_enter Tryz.func28, Tryz.ntmps28
  go_wp2
  go_loopw [3] (fun v wr => ∃ k : Nat, v = .int .i64 k ∧ k ≤ n ∧ twiceB (ls.take k) = false ∧ Below w.heap.size w wr) (fun v _ => n - (intOf v).toNat)
  case atStart => exact ⟨0, rfl, Nat.zero_le _, by rw [List.take_zero]; rfl, Below.refl _ _⟩
  case round =>
    obtain ⟨k, rfl, hk, htw, hbel⟩ := hrel
    have HTW := Lib.hid htw
    have HBE := Lib.hid hbel
    clear htw hbel
    by_cases hlt : k < n
    · obtain ⟨ad, rfl, hc⟩ := (HS.out.below HBE.out).at_ (k := k) (by rw [HN.out]; exact hlt)
      have htk := take_snoc' ls (k := k) (by rw [HN.out]; exact hlt)
      have htl : ls = ls.take (k + 1) ++ ls.drop (k + 1) := (List.take_append_drop _ _).symm
      obtain ⟨x, hx⟩ : ∃ x, ls.getD k ByteArray.empty = x := ⟨_, rfl⟩
      rw [hx] at hc htk
      have HTK := Lib.hid htk
      have HTL := Lib.hid htl
      have hin := fun W hs => r35_in (ls.take k) x (some ad) k c w.heap.size W (by rw [List.length_take, HN.out]; omega) (by omega) hs
      have HTAKE := Lib.hid ((HS.out.below HBE.out).take k)
      have hkc : k ≤ c := by omega
      clear hx htk htl
      cases hb : (ls.take k).any (fun y => y.toList == x.toList)
      · rw [hb] at hin
        have HIN := Lib.hid hin
        have HB := Lib.hid hb
        clear hin hb
        go_wp2_with fail
        go_quiet ((go_at_call 30; exact quiet_of_eq (HIN.out _ (HTAKE.out.drewN _))))
        go_wp2_with fail
        go_roundw
        case rel => exact ⟨k + 1, rfl, hlt, by rw [HTK.out, twiceB_snoc, HTW.out, HB.out]; rfl, below_drewN HBE.out _⟩
        case measure => simp only [intOf]; omega
      · have HF : Hid (twiceB ls = true) := Lib.hid (by rw [HTL.out]; refine twiceB_append _ _ ?_; rw [HTK.out, twiceB_snoc, hb, Bool.or_true])
        rw [hb] at hin
        have HIN := Lib.hid hin
        clear hin hb
        go_wp2_with fail
        go_quiet ((go_at_call 30; exact quiet_of_eq (HIN.out _ (HTAKE.out.drewN _))))
        go_wp2_with fail
        go_ret
        exact ⟨ret_bool HF.out.symm, below_drewN HBE.out _⟩
    · obtain rfl : k = n := by omega
      have HT : Hid (ls.take k = ls) := Lib.hid (List.take_of_length_le (by rw [HN.out]; exact Nat.le_refl _))
      go_wp2_with fail
      go_ret
      exact ⟨ret_bool (by rw [← HTW.out, HT.out]), HBE.out⟩

end Go.Proofs.YtlppcnjaacbhpaaGreatDoor

namespace Go.Proofs.YtlppcnjaacbhpaaGreatDoor
open Go.RowKit
set_option maxRecDepth 100000
set_option linter.unusedVariables false
set_option maxHeartbeats 2000000

theorem any_empty (ls : List ByteArray) : (ls.any fun y => y.toList == (⟨#[]⟩ : ByteArray).toList) = ls.any fun u => u.toList.isEmpty := by
  congr 1
  funext y
  have : (⟨#[]⟩ : ByteArray).toList = [] := by rw [ByteArray.toList_eq]
  rw [this]
  cases y.toList <;> rfl
theorem SLs.cell_ {w : World} {b : Nat} {A : Option Addr} {ls : List ByteArray} {ad : Addr} {k : Nat} {x : ByteArray} (h : SLs w b (some ad) ls) (hk : k < ls.length) (hx : ls.getD k ByteArray.empty = x) : w.cell? (ad.add k) = some (.string x) := by
  obtain ⟨ad', e, hc⟩ := h.at_ hk
  injection e with e
  subst e
  rw [hc, hx]
theorem r35_ready (kn z s r h : Value) (m o u : ByteArray) (els hs : List ByteArray) (A1 A2 : Option Addr) (n1 n2 c1 c2 : Nat) (w : World) (sm : m.size ≤ 8) (e1 : els.length = n1) (e2 : hs.length = n2) (b1 : n1 ≤ 1000) (b2 : n2 ≤ 1000)
    (h1 : SLs w w.heap.size A1 els) (h2 : SLs w w.heap.size A2 hs) :
    Calls Tryz.prog 27 #[.agg #[kn, .string m, .string o, z, s, r, .string u, h], .slice A1 n1 c1, .slice A2 n2 c2] w fun e w' => e = .returned (.int .i64 (readyS m o els hs)) ∧ Below w.heap.size w w' := by
  have hr : readyS m o els hs = if (els.all valid && (hs.all valid && (valid m && valid o))) = true then
    if groupE m o = 0 then (if els.all (hasG m o) = true then (if hs.any (fun u => u.toList.isEmpty) = true then 11 else 0) else 13) else groupE m o else 3 := rfl
  have HR := Lib.hid hr
  have HE1 := Lib.hid e1
  have HE2 := Lib.hid e2
  have H1 := Lib.hid h1
  have H2 := Lib.hid h2
  have HS := Lib.hid (KeyAt.box w kn z s r h m o u 27)
  have hv1 := fun w b h => r35_valid els A1 n1 c1 b w e1 b1 h
  have hv2 := fun w b h => r35_valid hs A2 n2 c2 b w e2 b2 h
  have hin := fun w b h => r35_in hs ⟨#[]⟩ A2 n2 c2 b w e2 b2 h
  rw [any_empty] at hin
  have HIN := Lib.hid hin
  have HCK := Lib.hid (fun w => r13_Check m o w sm)
  have y1 := HS.out.c1
  have y2 := HS.out.c2
  clear hr e1 e2 h1 h2 hin
  cases va : els.all valid
  · rw [va] at hv1
    have HV1 := Lib.hid hv1
    have HF : Hid (readyS m o els hs = 3) := Lib.hid (by rw [HR.out, va]; rfl)
    clear hv1 hv2 va
    go_enter Tryz.func27, Tryz.ntmps27
    go_wp2_with (first | (go_at_call 46; (with_reducible refine (HV1.out _ _ (HS.out.sls H1.out)).mono ?_); rintro e w' ⟨rfl, rfl⟩))
    go_ret
    exact ⟨ret_int HF.out.symm, HS.out.below⟩
  · cases vb : hs.all valid
    · rw [va] at hv1
      rw [vb] at hv2
      have HV1 := Lib.hid hv1
      have HV2 := Lib.hid hv2
      have HF : Hid (readyS m o els hs = 3) := Lib.hid (by rw [HR.out, va, vb]; rfl)
      clear hv1 hv2 va vb
      go_enter Tryz.func27, Tryz.ntmps27
      go_wp2_with (first | (go_at_call 46; (with_reducible refine (HV1.out _ _ (HS.out.sls H1.out)).mono ?_); rintro e w' ⟨rfl, rfl⟩) | (go_at_call 46; (with_reducible refine (HV2.out _ _ (HS.out.sls H2.out)).mono ?_); rintro e w' ⟨rfl, rfl⟩))
      go_ret
      exact ⟨ret_int HF.out.symm, HS.out.below⟩
    · rw [va] at hv1
      rw [vb] at hv2
      have HV1 := Lib.hid hv1
      have HV2 := Lib.hid hv2
      cases vc : (valid m && valid o)
      · have HF : Hid (readyS m o els hs = 3) := Lib.hid (by rw [HR.out, va, vb, vc]; rfl)
        clear hv1 hv2 va vb
        cases vm : valid m
        · clear vc
          go_enter Tryz.func27, Tryz.ntmps27
          go_wp2_with (first | (go_at_call 46; (with_reducible refine (HV1.out _ _ (HS.out.sls H1.out)).mono ?_); rintro e w' ⟨rfl, rfl⟩) | (go_at_call 46; (with_reducible refine (HV2.out _ _ (HS.out.sls H2.out)).mono ?_); rintro e w' ⟨rfl, rfl⟩) | (go_at_call 31; refine (r01_Valid _ _).mono ?_; rintro e w' ⟨rfl, rfl⟩))
          go_ret
          exact ⟨ret_int HF.out.symm, HS.out.below⟩
        · have vo : valid o = false := by rw [vm] at vc; simpa using vc
          clear vc
          go_enter Tryz.func27, Tryz.ntmps27
          go_wp2_with (first | (go_at_call 46; (with_reducible refine (HV1.out _ _ (HS.out.sls H1.out)).mono ?_); rintro e w' ⟨rfl, rfl⟩) | (go_at_call 46; (with_reducible refine (HV2.out _ _ (HS.out.sls H2.out)).mono ?_); rintro e w' ⟨rfl, rfl⟩) | (go_at_call 31; refine (r01_Valid _ _).mono ?_; rintro e w' ⟨rfl, rfl⟩))
          go_ret
          exact ⟨ret_int HF.out.symm, HS.out.below⟩
      · have hr2 : readyS m o els hs = if groupE m o = 0 then (if els.all (hasG m o) = true then (if hs.any (fun u => u.toList.isEmpty) = true then 11 else 0) else 13) else groupE m o := by rw [HR.out, va, vb, vc]; rfl
        have HR2 := Lib.hid hr2
        rw [Bool.and_eq_true] at vc
        obtain ⟨vm, vo⟩ := vc
        clear hv1 hv2 va vb hr2 HR
        have hha := fun x w => r13_Has m o x w sm
        generalize groupE m o = ge at *
        by_cases hge : ge = 0
        · subst hge
          rw [if_pos rfl] at HR2
          have HHA := Lib.hid hha
          clear hha
          go_enter Tryz.func27, Tryz.ntmps27
          go_wp2_with (first | (go_at_call 46; (with_reducible refine (HV1.out _ _ (HS.out.sls H1.out)).mono ?_); rintro e w' ⟨rfl, rfl⟩) | (go_at_call 46; (with_reducible refine (HV2.out _ _ (HS.out.sls H2.out)).mono ?_); rintro e w' ⟨rfl, rfl⟩) | (go_at_call 31; refine (r01_Valid _ _).mono ?_; rintro e w' ⟨rfl, rfl⟩) | (go_at_call 47; (with_reducible refine (HCK.out _).mono ?_); rintro e w1 ⟨rfl, hb1⟩; have HS3 := Lib.hid (HS.out.next hb1); clear hb1))
          clear vm vo y1 y2
          go_loopw [8] (fun v wr => ∃ k : Nat, v = .int .i64 k ∧ k ≤ n1 ∧ (∀ j, j < k → hasG m o (els.getD j ByteArray.empty) = true) ∧ KeyAt w w.heap.size m o u wr) (fun v _ => n1 - (intOf v).toNat)
          case atStart => exact ⟨0, rfl, Nat.zero_le _, fun j h => absurd h (Nat.not_lt_zero _), HS3.out⟩
          case round =>
            obtain ⟨k, rfl, hk, hall, hgr⟩ := hrel
            have HA := Lib.hid hall
            have HG := Lib.hid hgr
            have d1 := hgr.c1
            have d2 := hgr.c2
            clear hall hgr
            by_cases hlt : k < n1
            · obtain ⟨ad, rfl, hc⟩ := (HG.out.sls H1.out).at_ (k := k) (by rw [HE1.out]; exact hlt)
              obtain ⟨x, hx⟩ : ∃ x, els.getD k ByteArray.empty = x := ⟨_, rfl⟩
              rw [hx] at hc
              have HX := Lib.hid hx
              have hh := HHA.out x
              have HLT := Lib.hid hlt
              have HCC := Lib.hid (show ∀ w', KeyAt w w.heap.size m o u w' → w'.cell? (ad.add k) = some (.string x) from fun w' hk' => (hk'.sls H1.out).cell_ (A := some ad) (by rw [HE1.out]; exact hlt) hx)
              clear hx
              cases hb : hasG m o x
              all_goals
                rw [hb] at hh
                have HH := Lib.hid hh
                have HB := Lib.hid hb
                clear hh hb
                go_wp2_with fail
                go_region_held3 (fun w' => w'.cell? ⟨w.heap.size, 1, none⟩ = some (.string m) ∧ w'.cell? ⟨w.heap.size, 2, none⟩ = some (.string o) ∧ w'.cell? (ad.add k) = some (.string x)) (first | go_keep) (first | (go_at_call 48; (with_reducible refine (HH.out _).mono ?_); rintro e w2 ⟨rfl, hb2⟩; have n2 : KeyAt w w.heap.size m o u w2 := by { first | exact HG.out.next hb2 | exact HG.out.drew.next hb2 }; have q1 := n2.c1; have q2 := n2.c2; have q3 := HCC.out _ n2; have HG2 := Lib.hid n2; clear n2 hb2))
              · go_wp2_with fail
                go_ret
                exact ⟨ret_int (by rw [HR2.out, if_neg (by rw [all_not' (k := k) (by rw [HE1.out]; exact HLT.out) (by rw [HX.out]; exact HB.out)]; simp)]), HG2.out.below⟩
              · go_wp2_with fail
                go_roundw
                case rel => exact ⟨k + 1, rfl, HLT.out, fun j hj => by
                  by_cases e : j = k
                  · subst e; rw [HX.out]; exact HB.out
                  · exact HA.out j (by omega), HG2.out⟩
                case measure => have := HLT.out; simp only [intOf]; omega
            · obtain rfl : k = n1 := by omega
              rw [if_pos (all_of' (fun j hj => HA.out j (by rw [HE1.out] at hj; exact hj)))] at HR2
              clear hk hlt
              cases hem : hs.any (fun u => u.toList.isEmpty)
              · rw [hem] at HIN HR2
                clear hem
                go_wp2_with (first | (go_at_call 30; (with_reducible refine (HIN.out _ _ (HG.out.sls H2.out)).mono ?_); rintro e w' ⟨rfl, rfl⟩))
                go_ret
                exact ⟨ret_int (by rw [HR2.out]; rfl), HG.out.below⟩
              · rw [hem] at HIN HR2
                clear hem
                go_wp2_with (first | (go_at_call 30; (with_reducible refine (HIN.out _ _ (HG.out.sls H2.out)).mono ?_); rintro e w' ⟨rfl, rfl⟩))
                go_ret
                exact ⟨ret_int (by rw [HR2.out]; rfl), HG.out.below⟩
        · rw [if_neg hge] at HR2
          have hnb : (ge != 0) = true := by rw [bne_iff_ne]; exact hge
          clear hge hha
          go_enter Tryz.func27, Tryz.ntmps27
          go_wp2_with (first | (go_at_call 46; (with_reducible refine (HV1.out _ _ (HS.out.sls H1.out)).mono ?_); rintro e w' ⟨rfl, rfl⟩) | (go_at_call 46; (with_reducible refine (HV2.out _ _ (HS.out.sls H2.out)).mono ?_); rintro e w' ⟨rfl, rfl⟩) | (go_at_call 31; refine (r01_Valid _ _).mono ?_; rintro e w' ⟨rfl, rfl⟩) | (go_at_call 47; (with_reducible refine (HCK.out _).mono ?_); rintro e w1 ⟨rfl, hb1⟩; have HS3 := Lib.hid (HS.out.next hb1); clear hb1))
          go_ret
          exact ⟨ret_int HR2.out.symm, HS3.out.below⟩
theorem r35_power (kn z s r h : Value) (m o u : ByteArray) (X e : Nat) (w : World) (sm : m.size ≤ 8) (hg : groupE m o = 0) (hx : hasG m o (B X) = true) (he : e < lim) :
    Calls Tryz.prog 29 #[.agg #[kn, .string m, .string o, z, s, r, .string u, h], .string (B X), .string (B e)] w fun r w' => r = .returned (.string (B (X ^ e % num m))) ∧ Below w.heap.size w w' := by
  have HE := Lib.hid (fun w => r13_Exp m o X e w sm hg hx he)
  have HL := Lib.hid he
  have HS := Lib.hid (KeyAt.box w kn z s r h m o u 27)
  have y1 := HS.out.c1
  have y2 := HS.out.c2
  clear hg hx he
  generalize X ^ e % num m = R at *
  go_enter Tryz.func29, Tryz.ntmps29
  go_wp2_with fail
  go_region_held3 (fun w' => w'.cell? ⟨w.heap.size, 1, none⟩ = some (.string m) ∧ w'.cell? ⟨w.heap.size, 2, none⟩ = some (.string o)) (first | go_keep) (first | (go_at_call 50; (with_reducible refine (r02_From e _ HL).mono ?_); rintro e' w2 ⟨rfl, hb2⟩; have n2 : KeyAt w w.heap.size m o u w2 := by { first | exact HS.out.next hb2 | exact HS.out.drew.next hb2 }; have q1 := n2.c1; have q2 := n2.c2; have H2 := Lib.hid n2; clear n2 hb2) | (go_at_call 49; (with_reducible refine (HE.out _).mono ?_); rintro e' w3 ⟨rfl, hb3⟩; have n3 : KeyAt w w.heap.size m o u w3 := by { first | exact H2.out.next hb3 | exact H2.out.drew.next hb3 }; have q1 := n3.c1; have q2 := n3.c2; have H3 := Lib.hid n3; clear n3 hb3))
  all_goals
    go_wp2_with fail
    go_ret
    exact ⟨rfl, H3.out.below⟩

end Go.Proofs.YtlppcnjaacbhpaaGreatDoor

namespace Go.Proofs.YtlppcnjaacbhpaaGreatDoor
open Go.RowKit
set_option maxRecDepth 100000
set_option linter.unusedVariables false
set_option maxHeartbeats 2000000

theorem r35_Value (kn z s r h : Value) (m o u : ByteArray) (ls : List ByteArray) (A : Option Addr) (n c : Nat) (w : World) (hT : Tab w) (sm : m.size ≤ 8) (hn : ls.length = n) (hm : n ≤ 1000) (hnc : n ≤ c) (hs : SLs w w.heap.size A ls) :
    Calls Tryz.prog 11 #[.agg #[kn, .string m, .string o, z, s, r, .string u, h], .slice A n c] w fun e w' => e = .returned (.tuple #[.string (valueS m o u ls).1, .int .i64 (valueS m o u ls).2]) ∧ Below w.heap.size w w' := by
  have hr : valueS m o u ls = if readyS m o [u] ls = 0 then (if twiceB ls = true then (E0, 8) else (B (raiseN (num m) ls (num u)), 0)) else (E0, readyS m o [u] ls) := rfl
  have HR := Lib.hid hr
  have HS := Lib.hid hs
  have HN := Lib.hid hn
  have HB := Lib.hid (KbAt.box (kn := kn) (z := z) (s := s) (r := r) (h := h) (m := m) (o := o) (u := u) hT)
  have HB2 := Lib.hid (HB.out.alloc (.cells #[.string u] 22))
  have hrd := r35_ready kn z s r h m o u [u] ls (some ⟨w.heap.size + 1, 0, none⟩) A 1 n 1 c ((w.alloc (.cells #[kn, .string m, .string o, z, s, r, .string u, h] 27)).alloc (.cells #[.string u] 22)) sm rfl hn (by decide) hm
    (by have := SLs.new (w.alloc (.cells #[kn, .string m, .string o, z, s, r, .string u, h] 27)) 22 [u] (w.heap.size + 1 + 1) (by simp); simp only [World.size_alloc] at this ⊢; exact this)
    (HB2.out.sls hs)
  have hok := fun h0 => readyS_ok (m := m) (o := o) (els := [u]) (hs := ls) h0
  have htw := fun w hs => r35_twice ls A n c w hn hm hnc hs
  obtain ⟨re, hre⟩ : ∃ re, readyS m o [u] ls = re := ⟨_, rfl⟩
  rw [hre] at HR hrd hok
  have HRD := Lib.hid hrd
  obtain ⟨x0, x1, x2, x3, x4, x5, x6, x7⟩ := HB.out.all
  obtain ⟨y0, y1, y2, y3, y4, y5, y6, y7⟩ := HB2.out.all
  clear hr hrd hs hre hT hn
  by_cases h0 : re = 0
  · subst h0
    obtain ⟨_, vl, hg, hx, _⟩ := hok rfl
    simp only [List.all_cons, List.all_nil, Bool.and_true] at hx
    have hvu := (hasG_lt sm hx).1
    rw [if_pos rfl] at HR
    cases hb : twiceB ls
    · rw [hb, if_neg (by simp)] at HR
      rw [hb] at htw
      have HTW := Lib.hid htw
      have HX := Lib.hid (show hasG m o (B (num u)) = true by rw [B_num hvu]; exact hx)
      have HPW := Lib.hid (fun y e w (hy : hasG m o (B y) = true) (he : e < lim) => r35_power kn z s r h m o u y e w sm hg hy he)
      have HPG := Lib.hid (fun y k (hy : hasG m o (B y) = true) => hasG_pow (k := k) sm hg hy)
      have HV := Lib.hid vl
      have eu := B_num hvu
      have HEU := Lib.hid eu
      obtain ⟨M, hM⟩ : ∃ M, num m = M := ⟨_, rfl⟩
      obtain ⟨U, hU⟩ : ∃ U, num u = U := ⟨_, rfl⟩
      rw [hM] at HPW HPG HR
      rw [hU] at HR HX HEU
      clear hok htw vl hg hx hvu hb hM hU eu
      go_enter Tryz.func11, Tryz.ntmps11
      go_wp2_with (first | (go_at_call 27; (with_reducible refine HRD.out.mono ?_); rintro e w1 ⟨rfl, hb1⟩; have n1 := HB2.out.next hb1; obtain ⟨x0, x1, x2, x3, x4, x5, x6, x7⟩ := n1.all; have H1 := Lib.hid n1; clear n1 hb1) | (go_at_call 28; (with_reducible refine (HTW.out _ (H1.out.sls HS.out)).mono ?_); rintro e w2 ⟨rfl, hb2⟩; have n2 := H1.out.next hb2; obtain ⟨x0, x1, x2, x3, x4, x5, x6, x7⟩ := n2.all; have H2 := Lib.hid n2; clear n2 hb2))
      go_loopw [7, 8] (fun v7 v wr => ∃ (k y : Nat), v7 = .string (B y) ∧ v = .int .i64 k ∧ k ≤ n ∧ y = raiseN M (ls.take k) U ∧ hasG m o (B y) = true ∧ KbAt w kn z s r h m o u wr) (fun _ v _ => n - (intOf v).toNat)
      case atStart => exact ⟨0, U, by rw [HEU.out], rfl, Nat.zero_le _, by rw [List.take_zero]; rfl, HX.out, H2.out⟩
      case round =>
        obtain ⟨k, y, rfl, rfl, hk, hy, hhy, hkb⟩ := hrel
        have HY := Lib.hid hy
        have HHY := Lib.hid hhy
        have HK := Lib.hid hkb
        obtain ⟨x0, x1, x2, x3, x4, x5, x6, x7⟩ := hkb.all
        clear hy hhy hkb y0 y1 y2 y3 y4 y5 y6 y7
        by_cases hlt : k < n
        · have hsl := HK.out.sls HS.out
          obtain ⟨ad, rfl, hc⟩ := hsl.at_ (k := k) (by rw [HN.out]; exact hlt)
          have hvs := all_at HV.out (k := k) (by rw [HN.out]; exact hlt)
          have htk := take_snoc' ls (k := k) (by rw [HN.out]; exact hlt)
          obtain ⟨x, hx⟩ : ∃ x, ls.getD k ByteArray.empty = x := ⟨_, rfl⟩
          have HCC := Lib.hid (show ∀ w', KbAt w kn z s r h m o u w' → w'.cell? (ad.add k) = some (.string x) from fun w' hk' => (hk'.sls HS.out).cell_ (A := none) (by rw [HN.out]; exact hlt) hx)
          rw [hx] at hc hvs htk
          obtain ⟨e, hel, rfl⟩ := (valid_iff x).1 hvs
          have hrs := raiseN_snoc M (ls.take k) (B e) U
          rw [← htk, ← HY.out, num_B] at hrs
          have HRS := Lib.hid hrs
          have HLT := Lib.hid hlt
          have HEX := Lib.hid (fun w => HPW.out y e w HHY.out hel)
          have HP2 := Lib.hid (HPG.out y e HHY.out)
          clear hx htk hvs hrs hel hsl
          generalize y ^ e % M = Z at *
          go_wp2_with fail
          go_region_held3 (fun w' => w'.cell? ⟨w.heap.size, 0, none⟩ = some (kn) ∧ w'.cell? ⟨w.heap.size, 1, none⟩ = some (.string m) ∧ w'.cell? ⟨w.heap.size, 2, none⟩ = some (.string o) ∧ w'.cell? ⟨w.heap.size, 3, none⟩ = some (z) ∧ w'.cell? ⟨w.heap.size, 4, none⟩ = some (s) ∧ w'.cell? ⟨w.heap.size, 5, none⟩ = some (r) ∧ w'.cell? ⟨w.heap.size, 6, none⟩ = some (.string u) ∧ w'.cell? ⟨w.heap.size, 7, none⟩ = some (h) ∧ w'.cell? (ad.add k) = some (.string (B e))) (first | go_keep) (first | (go_at_call 29; (with_reducible refine (HEX.out _).mono ?_); rintro e' w3 ⟨rfl, hb3⟩; have n3 : KbAt w kn z s r h m o u w3 := by { first | exact HK.out.next hb3 | exact HK.out.drew.next hb3 }; obtain ⟨x0, x1, x2, x3, x4, x5, x6, x7⟩ := n3.all; have hcc := HCC.out _ n3; have H3 := Lib.hid n3; clear n3 hb3))
          all_goals
            go_wp2_with fail
            go_roundw
            case rel => exact ⟨k + 1, Z, rfl, rfl, HLT.out, HRS.out.symm, HP2.out, H3.out⟩
            case measure => have := HLT.out; simp only [intOf]; omega
        · obtain rfl : k = n := by omega
          have HT : Hid (ls.take k = ls) := Lib.hid (List.take_of_length_le (by rw [HN.out]; exact Nat.le_refl _))
          go_wp2_with fail
          go_ret2
          exact ⟨ret_se (by rw [HR.out, HY.out, HT.out]) (by rw [HR.out]), HK.out.below⟩
    · rw [hb, if_pos rfl] at HR
      rw [hb] at htw
      have HTW := Lib.hid htw
      clear hok htw vl hg hx hvu hb
      go_enter Tryz.func11, Tryz.ntmps11
      go_wp2_with (first | (go_at_call 27; (with_reducible refine HRD.out.mono ?_); rintro e w1 ⟨rfl, hb1⟩; have n1 := HB2.out.next hb1; obtain ⟨x0, x1, x2, x3, x4, x5, x6, x7⟩ := n1.all; have H1 := Lib.hid n1; clear n1 hb1) | (go_at_call 28; (with_reducible refine (HTW.out _ (H1.out.sls HS.out)).mono ?_); rintro e w2 ⟨rfl, hb2⟩; have H2 := Lib.hid (H1.out.next hb2); clear hb2))
      go_ret2
      exact ⟨ret_se (by rw [HR.out] <;> rfl) (by rw [HR.out]), H2.out.below⟩
  · rw [if_neg h0] at HR
    have hnb : (re != 0) = true := by rw [bne_iff_ne]; exact h0
    clear h0 hok htw
    go_enter Tryz.func11, Tryz.ntmps11
    go_wp2_with (first | (go_at_call 27; (with_reducible refine HRD.out.mono ?_); rintro e w1 ⟨rfl, hb1⟩; have H1 := Lib.hid (HB2.out.next hb1); clear hb1))
    go_ret2
    exact ⟨ret_se (by rw [HR.out] <;> rfl) (by rw [HR.out]), H1.out.below⟩

end Go.Proofs.YtlppcnjaacbhpaaGreatDoor

namespace Go.Proofs.YtlppcnjaacbhpaaGreatDoor
open Go.RowKit
set_option maxRecDepth 100000
set_option linter.unusedVariables false
set_option maxHeartbeats 2000000

theorem readyS_tail {m o u x : ByteArray} {ms : List ByteArray} (h : readyS m o [u] (x :: ms) = 0) (p : ByteArray → Bool) : readyS m o [u] (ms.filter p) = 0 := by
  obtain ⟨h1, h2, h3, h4, h5⟩ := readyS_ok h
  have hv : (ms.filter p).all valid = true := by
    rw [List.all_cons, Bool.and_eq_true] at h2
    exact all_filter h2.2
  have ha : (ms.filter p).any (fun u => u.toList.isEmpty) = false := by
    rw [List.any_cons, Bool.or_eq_false_iff] at h5
    rw [List.any_eq_false]
    intro y hy
    exact List.any_eq_false.1 h5.2 y (List.mem_filter.1 hy).1
  unfold readyS at h ⊢
  split at h
  · rename_i hc
    simp only [Bool.and_eq_true] at hc
    rw [if_pos (by rw [h1, hv, hc.2.2.1, hc.2.2.2]; rfl), if_pos h3, if_pos h4, if_neg (by rw [ha]; simp)]
  · cases h
theorem twiceB_filter {ms : List ByteArray} (p : ByteArray → Bool) (h : twiceB ms = false) : twiceB (ms.filter p) = false := by
  induction ms with
  | nil => rfl
  | cons a l ih =>
    simp only [twiceB, Bool.or_eq_false_iff] at h
    by_cases hp : p a
    · rw [List.filter_cons_of_pos hp]
      simp only [twiceB, Bool.or_eq_false_iff]
      refine ⟨?_, ih h.2⟩
      rw [List.any_eq_false]
      intro y hy
      exact List.any_eq_false.1 h.1 y (List.mem_filter.1 hy).1
    · rw [List.filter_cons_of_neg hp]
      exact ih h.2
theorem own_cap {w : World} {base : Nat} {A : Option Addr} {n c : Nat} {ls : List ByteArray} (h : OwnS w base (.slice A n c) n ls) : n ≤ c := by
  rcases h.2.2 with ⟨e, rfl⟩ | ⟨g, cap, cur, e, _, _, hnc, _⟩
  · exact Nat.zero_le _
  · injection e with _ _ e
    omega
theorem kb_app {w W w5 : World} {kn z s r h : Value} {m o u : ByteArray} {l ls : List ByteArray} {k n : Nat} {A' : Option Addr} {c' : Nat} {v5 : Value} (hlen : l.length = k) (hlen2 : ls.length = n) (hka : KbAt w kn z s r h m o u W) (hT : 1 < w.heap.size) (hown0 : OwnS W (w.heap.size + 1) (.slice A' k c') k l)
    (hown : w5.ownsRow (w.heap.size + 1) 22 1 v5 (k + n) (l.map Value.string ++ ls.map Value.string)) (hg : W.grownBy w5 (Value.slice A' k c').ownBlock) :
    ∃ A5 c5, v5 = .slice A5 (k + n) c5 ∧ OwnS w5 (w.heap.size + 1) (.slice A5 (k + n) c5) (k + n) (l ++ ls) ∧ KbAt w kn z s r h m o u w5 := by
  have hz1 : w.heap.size + 1 ≤ W.heap.size := hka.size
  have hz : w.heap.size + 1 ≤ w5.heap.size := Nat.le_trans hz1 hg.size
  have ho : OwnS w5 (w.heap.size + 1) v5 (k + n) (l ++ ls) := ⟨by simp [hlen, hlen2], by simpa using hown⟩
  obtain ⟨A, c, hv, hs⟩ := ho.form hz
  have hb1 : Below (w.heap.size + 1) W w5 := (Below.refl _ _).grown hg hz1 (fun k hk => (hown0.2.lt k hk).1)
  have hb : Below w.heap.size w w5 := hka.below.trans (hb1.mono (by omega))
  refine ⟨A, c, hv, hv ▸ ho, ⟨(hb1.block _ (by omega)).trans hka.blk, ?_, hb, Nat.lt_of_lt_of_le hka.size hg.size⟩⟩
  intro j hj
  rw [← hka.tab j hj]
  exact hb1.cell (p := ⟨1, j, none⟩) (by show 1 < _; omega)
theorem r35_Witness (kn z s r h : Value) (m o u x : ByteArray) (ls : List ByteArray) (A : Option Addr) (n c : Nat) (w : World) (hT : Tab w) (sm : m.size ≤ 8) (hn : ls.length = n) (hm : n ≤ 100) (hnc : n ≤ c) (hs : SLs w w.heap.size A ls) :
    Calls Tryz.prog 13 #[.agg #[kn, .string m, .string o, z, s, r, .string u, h], .slice A n c, .string x] w fun e w' => e = .returned (.tuple #[.string (witnessS m o u ls x).1, .int .i64 (witnessS m o u ls x).2]) ∧ Below w.heap.size w w' := by
  have hr : witnessS m o u ls x = if readyS m o [u] (x :: ls) = 0 then (if twiceB ls = true then (E0, 8) else if ls.any (fun y => y.toList == x.toList) = true then (B (raiseN (num m) (ls.filter fun y => !(y.toList == x.toList)) (num u)), 0) else (E0, 9)) else (E0, readyS m o [u] (x :: ls)) := rfl
  obtain ⟨i0, hi0, hz0, hz1, hz2⟩ := info_parts nat_info
  have HR := Lib.hid hr
  have HS := Lib.hid hs
  have HN := Lib.hid hn
  have HTL := Lib.hid hT.lt
  have HB := Lib.hid (KbAt.box (kn := kn) (z := z) (s := s) (r := r) (h := h) (m := m) (o := o) (u := u) hT)
  have HB2 := Lib.hid (HB.out.alloc (.cells #[.string x] 22))
  have hown := OwnS.lit (w.alloc (.cells #[kn, .string m, .string o, z, s, r, .string u, h] 27)) (w.heap.size + 1) [x] 1 (by simp) rfl (by decide)
  simp only [World.size_alloc] at hown
  have HOW := Lib.hid hown
  have hone : ∀ l : List ByteArray, ∀ u ∈ l.map Value.string, u.oneCell' = true := fun l u hu => by
    obtain ⟨y, _, rfl⟩ := List.mem_map.1 hu
    rfl
  have HONE := Lib.hid hone
  have HRDS := Lib.hid ((HB2.out.sls hs).reads hn)
  have HMAX := Lib.hid (show 1 + n ≤ maxLen by unfold maxLen; omega)
  have HBY := Lib.hid (show (1 + n) * 16 ≤ 140737488355328 by omega)
  have HBS := Lib.hid (show w.heap.size + 1 ≤ ((w.alloc (.cells #[kn, .string m, .string o, z, s, r, .string u, h] 27)).alloc (.cells #[.string x] 22)).heap.size by simp)
  have hrdy := fun g A' c' W hs1 hs2 => r35_ready kn z s r h m o u [u] (x :: ls) (some ⟨g, 0, none⟩) A' 1 (1 + n) 1 c' W sm rfl (by rw [List.length_cons, hn, Nat.add_comm]) (by decide) (by omega) hs1 hs2
  have htw := fun w hs => r35_twice ls A n c w hn (by omega) hnc hs
  have hin := fun w hs => r35_in ls x A n c w.heap.size w hn (by omega) hs
  have hva := fun l A' c' w hT hl hle hnc hs => r35_Value kn z s r h m o u l A' l.length c' w hT sm hl hle hnc hs
  have HVA := Lib.hid hva
  obtain ⟨re, hre⟩ : ∃ re, readyS m o [u] (x :: ls) = re := ⟨_, rfl⟩
  have hval : re = 0 → twiceB ls = false → valueS m o u (ls.filter fun y => !(y.toList == x.toList)) = (B (raiseN (num m) (ls.filter fun y => !(y.toList == x.toList)) (num u)), 0) := fun h0 h2 => by
    have e1 := readyS_tail (hre.trans h0) (fun y => !(y.toList == x.toList))
    have e2 := twiceB_filter (fun y => !(y.toList == x.toList)) h2
    unfold valueS
    rw [if_pos e1, if_neg (by rw [e2]; simp)]
  have HVAL := Lib.hid hval
  rw [hre] at HR hrdy
  have HRDY := Lib.hid hrdy
  obtain ⟨x0, x1, x2, x3, x4, x5, x6, x7⟩ := HB.out.all
  clear hr hs hT hn hown hone hrdy hre hval hva
  by_cases h0 : re = 0
  · subst h0
    rw [if_pos rfl] at HR
    cases hb : twiceB ls
    · rw [hb, if_neg (by simp)] at HR
      rw [hb] at htw
      have HTW := Lib.hid htw
      have hvl := HVAL.out rfl hb
      rw [← hvl] at HR
      cases han : ls.any (fun y => y.toList == x.toList)
      · rw [han, if_neg (by simp)] at HR
        rw [han] at hin
        have HIN := Lib.hid hin
        clear htw hin hb hvl han
        go_enter Tryz.func13, Tryz.ntmps13
        go_wp2_with (first | (at_builtin; refine wpList_append_any _ rfl (.tmp 13) (.tmp 14) _ rfl (w.heap.size + 1) 22 i0 _ 1 16 Tryz.underlying25 hi0 hz0 hz1 hz2 rfl (by omega) (.slice (some ⟨w.heap.size + 1, 0, none⟩) 1 1) 1 ([x].map Value.string) rfl HOW.out.2 _ A n c (ls.map Value.string) rfl HRDS.out (HONE.out ls) HMAX.out HBY.out HBS.out ?_; intro v5 w5 hown5 hg5 hat5; obtain ⟨A6, c6, rfl, ho5, hk5⟩ := kb_app (l := [x]) (ls := ls) rfl HN.out HB2.out HTL.out HOW.out hown5 hg5; have HO1 := Lib.hid ho5; obtain ⟨x0, x1, x2, x3, x4, x5, x6, x7⟩ := hk5.all; have H1 := Lib.hid hk5; have H1A := Lib.hid (hk5.alloc (.cells #[.string u] 22)); have HSU := Lib.hid (SLs.new w5 22 [u] (w5.alloc (.cells #[.string u] 22)).heap.size (by simp)); have HSX := Lib.hid ((own_sls ho5 hk5.size).to ((Below.refl _ _).alloc (Nat.le_refl _) (.cells #[.string u] 22))); clear hown5 hg5 hat5 ho5 hk5) | (go_at_call 27; (with_reducible refine (HRDY.out _ A6 c6 _ HSU.out HSX.out).mono ?_); rintro e w2 ⟨rfl, hb2⟩; have n2 := H1A.out.next hb2; obtain ⟨x0, x1, x2, x3, x4, x5, x6, x7⟩ := n2.all; have H2 := Lib.hid n2; clear n2 hb2) | (go_at_call 28; (with_reducible refine (HTW.out _ (H2.out.sls HS.out)).mono ?_); rintro e w3 ⟨rfl, hb3⟩; have n3 := H2.out.next hb3; obtain ⟨x0, x1, x2, x3, x4, x5, x6, x7⟩ := n3.all; have H3 := Lib.hid n3; clear n3 hb3) | (go_at_call 30; (with_reducible refine (HIN.out _ (H3.out.sls HS.out)).mono ?_); rintro e w' ⟨rfl, rfl⟩))
        go_ret2
        exact ⟨ret_se (by rw [HR.out] <;> rfl) (by rw [HR.out]), H3.out.below⟩
      · rw [han, if_pos rfl] at HR
        rw [han] at hin
        have HIN := Lib.hid hin
        clear htw hin hb hvl han
        go_enter Tryz.func13, Tryz.ntmps13
        go_wp2_with (first | (at_builtin; refine wpList_append_any _ rfl (.tmp 13) (.tmp 14) _ rfl (w.heap.size + 1) 22 i0 _ 1 16 Tryz.underlying25 hi0 hz0 hz1 hz2 rfl (by omega) (.slice (some ⟨w.heap.size + 1, 0, none⟩) 1 1) 1 ([x].map Value.string) rfl HOW.out.2 _ A n c (ls.map Value.string) rfl HRDS.out (HONE.out ls) HMAX.out HBY.out HBS.out ?_; intro v5 w5 hown5 hg5 hat5; obtain ⟨A6, c6, rfl, ho5, hk5⟩ := kb_app (l := [x]) (ls := ls) rfl HN.out HB2.out HTL.out HOW.out hown5 hg5; have HO1 := Lib.hid ho5; obtain ⟨x0, x1, x2, x3, x4, x5, x6, x7⟩ := hk5.all; have H1 := Lib.hid hk5; have H1A := Lib.hid (hk5.alloc (.cells #[.string u] 22)); have HSU := Lib.hid (SLs.new w5 22 [u] (w5.alloc (.cells #[.string u] 22)).heap.size (by simp)); have HSX := Lib.hid ((own_sls ho5 hk5.size).to ((Below.refl _ _).alloc (Nat.le_refl _) (.cells #[.string u] 22))); clear hown5 hg5 hat5 ho5 hk5) | (go_at_call 27; (with_reducible refine (HRDY.out _ A6 c6 _ HSU.out HSX.out).mono ?_); rintro e w2 ⟨rfl, hb2⟩; have n2 := H1A.out.next hb2; obtain ⟨x0, x1, x2, x3, x4, x5, x6, x7⟩ := n2.all; have H2 := Lib.hid n2; clear n2 hb2) | (go_at_call 28; (with_reducible refine (HTW.out _ (H2.out.sls HS.out)).mono ?_); rintro e w3 ⟨rfl, hb3⟩; have n3 := H2.out.next hb3; obtain ⟨x0, x1, x2, x3, x4, x5, x6, x7⟩ := n3.all; have H3 := Lib.hid n3; clear n3 hb3) | (go_at_call 30; (with_reducible refine (HIN.out _ (H3.out.sls HS.out)).mono ?_); rintro e w' ⟨rfl, rfl⟩))
        go_loopw [10, 11] (fun v11 v wr => ∃ (k : Nat) (l : List ByteArray) (A' : Option Addr) (c' : Nat), v11 = .slice A' l.length c' ∧ v = .int .i64 k ∧ k ≤ n ∧ l = (ls.take k).filter (fun y => !(y.toList == x.toList)) ∧ OwnS wr (w.heap.size + 1) (.slice A' l.length c') l.length l ∧ KbAt w kn z s r h m o u wr) (fun _ v _ => n - (intOf v).toNat)
        case atStart => exact ⟨0, [], none, 0, rfl, rfl, Nat.zero_le _, by rw [List.take_zero]; rfl, OwnS.nil_ _ _, H3.out⟩
        case round =>
          obtain ⟨k, l, A', c', rfl, rfl, hk, hl, hown, hkey⟩ := hrel
          have HL := Lib.hid hl
          have HOWN := Lib.hid hown
          have HKEY := Lib.hid hkey
          obtain ⟨x0, x1, x2, x3, x4, x5, x6, x7⟩ := hkey.all
          have HLL := Lib.hid (show l.length ≤ n from by rw [hl]; exact Nat.le_trans (List.length_filter_le _ _) (by rw [List.length_take]; omega))
          clear hl hown hkey
          by_cases hlt : k < n
          · obtain ⟨ad, rfl, hc⟩ := (HKEY.out.sls HS.out).at_ (k := k) (by rw [HN.out]; exact hlt)
            have htk := take_snoc' ls (k := k) (by rw [HN.out]; exact hlt)
            obtain ⟨y, hy⟩ : ∃ y, ls.getD k ByteArray.empty = y := ⟨_, rfl⟩
            rw [hy] at hc htk
            have HTK := Lib.hid htk
            have HLT := Lib.hid hlt
            clear hy htk
            cases kb : (y.toList == x.toList)
            · have HF : Hid ((ls.take (k + 1)).filter (fun y => !(y.toList == x.toList)) = l ++ [y]) := Lib.hid (by rw [HTK.out, List.filter_append, ← HL.out]; simp [kb])
              have HOW2 := Lib.hid (HOWN.out.kept (B := 0) ((Below.refl _ _).alloc (Nat.le_refl _) (.cells #[.string y] 22)))
              have HRDY2 := Lib.hid ((SLs.new wr 22 [y] (wr.heap.size + 1) (by omega)).reads (n := 1) rfl)
              have HMX2 := Lib.hid (show l.length + 1 ≤ maxLen from by have := HLL.out; unfold maxLen; omega)
              have HBY2 := Lib.hid (show (l.length + 1) * 16 ≤ 140737488355328 from by have := HLL.out; omega)
              have HBS2 := Lib.hid (show w.heap.size + 1 ≤ (wr.alloc (.cells #[.string y] 22)).heap.size from by have := HKEY.out.size; simp; omega)
              go_wp2_with (at_builtin; refine wpList_append_any _ rfl (.tmp 43) (.tmp 48) _ rfl (w.heap.size + 1) 22 i0 _ 1 16 Tryz.underlying25 hi0 hz0 hz1 hz2 rfl (by omega) (.slice A' l.length c') l.length (l.map Value.string) rfl HOW2.out.2 (wr.heap.size + 1) _ 1 1 ([y].map Value.string) rfl HRDY2.out (HONE.out [y]) HMX2.out HBY2.out HBS2.out ?_; intro v5 w5 hown5 hg5 hat5; obtain ⟨A5, c5, rfl, ho5, hk5⟩ := kb_app (ls := [y]) rfl rfl (HKEY.out.alloc _) HTL.out HOW2.out hown5 hg5; have HO5 := Lib.hid ho5; have HK5 := Lib.hid hk5; clear hown5 hg5 hat5 ho5 hk5)
              go_roundw
              case rel => exact ⟨k + 1, l ++ [y], A5, c5, by simp, rfl, HLT.out, HF.out.symm, by simpa using HO5.out, HK5.out⟩
              case measure => have := HLT.out; simp only [intOf]; omega
            · have HF : Hid ((ls.take (k + 1)).filter (fun y => !(y.toList == x.toList)) = l) := Lib.hid (by rw [HTK.out, List.filter_append, ← HL.out]; simp [kb])
              go_wp2_with fail
              go_roundw
              case rel => exact ⟨k + 1, l, A', c', rfl, rfl, HLT.out, HF.out.symm, HOWN.out, HKEY.out⟩
              case measure => have := HLT.out; simp only [intOf]; omega
          · obtain rfl : k = n := by omega
            have HT : Hid (ls.take k = ls) := Lib.hid (List.take_of_length_le (by rw [HN.out]; exact Nat.le_refl _))
            have HSL5 := Lib.hid (own_sls HOWN.out HKEY.out.size)
            have HCAP := Lib.hid (own_cap HOWN.out)
            have HLM := Lib.hid (show l.length ≤ 1000 from by have := HLL.out; omega)
            have hvv := fun w hT hs => HVA.out l A' c' w hT (by trivial) HLM.out HCAP.out hs
            rw [HT.out] at HL
            rw [← HL.out] at HR
            rw [← HR.out] at hvv
            obtain ⟨V1, hV1⟩ : ∃ V1, (witnessS m o u ls x).1 = V1 := ⟨_, rfl⟩
            obtain ⟨V2, hV2⟩ : ∃ V2, (witnessS m o u ls x).2 = V2 := ⟨_, rfl⟩
            rw [hV1, hV2] at hvv
            have HV1 := Lib.hid hV1
            have HV2 := Lib.hid hV2
            clear hV1 hV2
            have HVV := Lib.hid hvv
            clear hvv
            go_wp2_with (go_at_call 11; (with_reducible refine (HVV.out _ HKEY.out.tab HSL5.out).mono ?_); rintro e w7 ⟨rfl, hb7⟩)
            go_ret2
            exact ⟨ret_se HV1.out.symm HV2.out.symm, (HKEY.out.next hb7).below⟩
    · rw [hb, if_pos rfl] at HR
      rw [hb] at htw
      have HTW := Lib.hid htw
      clear htw hin hb
      go_enter Tryz.func13, Tryz.ntmps13
      go_wp2_with (first | (at_builtin; refine wpList_append_any _ rfl (.tmp 13) (.tmp 14) _ rfl (w.heap.size + 1) 22 i0 _ 1 16 Tryz.underlying25 hi0 hz0 hz1 hz2 rfl (by omega) (.slice (some ⟨w.heap.size + 1, 0, none⟩) 1 1) 1 ([x].map Value.string) rfl HOW.out.2 _ A n c (ls.map Value.string) rfl HRDS.out (HONE.out ls) HMAX.out HBY.out HBS.out ?_; intro v5 w5 hown5 hg5 hat5; obtain ⟨A6, c6, rfl, ho5, hk5⟩ := kb_app (l := [x]) (ls := ls) rfl HN.out HB2.out HTL.out HOW.out hown5 hg5; have HO1 := Lib.hid ho5; obtain ⟨x0, x1, x2, x3, x4, x5, x6, x7⟩ := hk5.all; have H1 := Lib.hid hk5; have H1A := Lib.hid (hk5.alloc (.cells #[.string u] 22)); have HSU := Lib.hid (SLs.new w5 22 [u] (w5.alloc (.cells #[.string u] 22)).heap.size (by simp)); have HSX := Lib.hid ((own_sls ho5 hk5.size).to ((Below.refl _ _).alloc (Nat.le_refl _) (.cells #[.string u] 22))); clear hown5 hg5 hat5 ho5 hk5) | (go_at_call 27; (with_reducible refine (HRDY.out _ A6 c6 _ HSU.out HSX.out).mono ?_); rintro e w2 ⟨rfl, hb2⟩; have n2 := H1A.out.next hb2; obtain ⟨x0, x1, x2, x3, x4, x5, x6, x7⟩ := n2.all; have H2 := Lib.hid n2; clear n2 hb2) | (go_at_call 28; (with_reducible refine (HTW.out _ (H2.out.sls HS.out)).mono ?_); rintro e w3 ⟨rfl, hb3⟩; have n3 := H2.out.next hb3; obtain ⟨x0, x1, x2, x3, x4, x5, x6, x7⟩ := n3.all; have H3 := Lib.hid n3; clear n3 hb3))
      go_ret2
      exact ⟨ret_se (by rw [HR.out] <;> rfl) (by rw [HR.out]), H3.out.below⟩
  · rw [if_neg h0] at HR
    have hnb : (re != 0) = true := by rw [bne_iff_ne]; exact h0
    clear h0 htw hin
    go_enter Tryz.func13, Tryz.ntmps13
    go_wp2_with (first | (at_builtin; refine wpList_append_any _ rfl (.tmp 13) (.tmp 14) _ rfl (w.heap.size + 1) 22 i0 _ 1 16 Tryz.underlying25 hi0 hz0 hz1 hz2 rfl (by omega) (.slice (some ⟨w.heap.size + 1, 0, none⟩) 1 1) 1 ([x].map Value.string) rfl HOW.out.2 _ A n c (ls.map Value.string) rfl HRDS.out (HONE.out ls) HMAX.out HBY.out HBS.out ?_; intro v5 w5 hown5 hg5 hat5; obtain ⟨A6, c6, rfl, ho5, hk5⟩ := kb_app (l := [x]) (ls := ls) rfl HN.out HB2.out HTL.out HOW.out hown5 hg5; have HO1 := Lib.hid ho5; obtain ⟨x0, x1, x2, x3, x4, x5, x6, x7⟩ := hk5.all; have H1 := Lib.hid hk5; have H1A := Lib.hid (hk5.alloc (.cells #[.string u] 22)); have HSU := Lib.hid (SLs.new w5 22 [u] (w5.alloc (.cells #[.string u] 22)).heap.size (by simp)); have HSX := Lib.hid ((own_sls ho5 hk5.size).to ((Below.refl _ _).alloc (Nat.le_refl _) (.cells #[.string u] 22))); clear hown5 hg5 hat5 ho5 hk5) | (go_at_call 27; (with_reducible refine (HRDY.out _ A6 c6 _ HSU.out HSX.out).mono ?_); rintro e w2 ⟨rfl, hb2⟩; have n2 := H1A.out.next hb2; obtain ⟨x0, x1, x2, x3, x4, x5, x6, x7⟩ := n2.all; have H2 := Lib.hid n2; clear n2 hb2))
    go_ret2
    exact ⟨ret_se (by rw [HR.out] <;> rfl) (by rw [HR.out]), H2.out.below⟩

end Go.Proofs.YtlppcnjaacbhpaaGreatDoor
