/- The reference's shamir (19): points = ptsE, Coefs, Interpolate = intS, Fits = fitsS, Combine = combS. The program's Fits = fitsS. -/
import Derived.Test.YtapplggboepfaaaGreatDoorTh
import Derived.Test.YtapplggboepfaaaGreatDoorSJ
import Derived.Test.YtapplggboepfaaaGreatDoorSg
import Derived.Deep.DeepCutAuto
import Derived.Deep.CutBlock
namespace Go.Proofs.YtapplggboepfaaaGreatDoor
open Go.RowKit
set_option maxRecDepth 100000
set_option linter.unusedVariables false
set_option linter.unusedSimpArgs false
set_option maxHeartbeats 8000000

theorem isE_bad {q : ByteArray} (hq : valid q = false) : isE q = 3 := by
  have hs : smallS q = (0, 3) := by unfold smallS; rw [hq]; rfl
  unfold isE isPS
  rw [hs]
  rfl
theorem shE3_bad {q x : ByteArray} {xs ys : List ByteArray} (h : (valid q && (valid x && true) && (xs.all valid && ys.all valid)) = false) : shE q [xs, ys, [x]] = 3 := by
  unfold shE
  by_cases hv : [xs, ys, [x]].all (fun l => l.all valid) = true
  · rw [if_pos hv]
    simp only [List.all_cons, List.all_nil, Bool.and_true, Bool.and_eq_true] at hv
    rw [hv.1, hv.2.1, hv.2.2] at h
    exact isE_bad (by simpa using h)
  · rw [if_neg hv]
theorem shE3_good {q x : ByteArray} {xs ys : List ByteArray} (h : (valid q && (valid x && true) && (xs.all valid && ys.all valid)) = true) : shE q [xs, ys, [x]] = isE q := by
  unfold shE
  rw [if_pos]
  simp only [Bool.and_eq_true] at h
  simp [h.1.2.1, h.2.1, h.2.2]
theorem beq_swap (a b : List UInt8) : (a == b) = (b == a) := by
  rw [Bool.eq_iff_iff, beq_iff_eq, beq_iff_eq]; exact eq_comm
theorem any_false_at {l : List ByteArray} {s : List UInt8} (h : ∀ t, t < l.length → (s == (l.getD t ByteArray.empty).toList) = false) : l.any (fun y => y.toList == s) = false := by
  rw [Bool.eq_false_iff]
  intro ha
  obtain ⟨y, hy, he⟩ := List.any_eq_true.1 ha
  obtain ⟨t, ht, rfl⟩ := List.mem_iff_getElem.1 hy
  have := h t ht
  rw [sgetD_lt ht, beq_swap, he] at this
  cases this
theorem any_true_at {l : List ByteArray} {s : List UInt8} {t : Nat} (ht : t < l.length) (h : (s == (l.getD t ByteArray.empty).toList) = true) : l.any (fun y => y.toList == s) = true := by
  rw [List.any_eq_true]
  refine ⟨l[t], List.getElem_mem ht, ?_⟩
  rw [sgetD_lt ht] at h
  rw [beq_swap]; exact h
theorem sgetD_take {l : List ByteArray} {i t : Nat} (h : t < i) : (l.take i).getD t ByteArray.empty = l.getD t ByteArray.empty := by
  rw [List.getD_eq_getElem?_getD, List.getD_eq_getElem?_getD, List.getElem?_take_of_lt h]
theorem twice_step {l : List ByteArray} {i : Nat} (hi : i < l.length) (h0 : twiceB (l.take i) = false) (h : ∀ t, t < i → ((l.getD i ByteArray.empty).toList == (l.getD t ByteArray.empty).toList) = false) : twiceB (l.take (i + 1)) = false := by
  rw [take_snocS l hi, twiceB_snocS, h0, Bool.false_or]
  refine any_false_at (fun t ht => ?_)
  rw [List.length_take] at ht
  rw [sgetD_take (by omega)]
  exact h t (by omega)
theorem twice_hit {l : List ByteArray} {i k : Nat} (hi : i < l.length) (hk : k < i) (h : ((l.getD i ByteArray.empty).toList == (l.getD k ByteArray.empty).toList) = true) : twiceB l = true := by
  have e : l = l.take (i + 1) ++ l.drop (i + 1) := (List.take_append_drop _ _).symm
  rw [e]
  refine twiceB_appS _ _ ?_
  rw [take_snocS l hi, twiceB_snocS]
  rw [any_true_at (t := k) (by rw [List.length_take]; omega) (by rw [sgetD_take hk]; exact h), Bool.or_true]
theorem r19_points (q x : ByteArray) (xs ys : List ByteArray) (A A2 : Option Addr) (n n2 c c2 : Nat) (w : World) (hn : xs.length = n) (hn2 : ys.length = n2) (hm : n ≤ 1000) (hm2 : n2 ≤ 1000) (h : SLs w w.heap.size A xs) (h' : SLs w w.heap.size A2 ys) :
    Calls Tryz.prog 39 #[.string q, .slice A n c, .slice A2 n2 c2, .string x] w fun e w' => e = .returned (.int .i64 (ptsE q xs ys x)) ∧ Below w.heap.size w w' := by
  have hev : ptsE q xs ys x = if shE q [xs, ys, [x]] = 0 then (if xs.length ≠ ys.length ∨ 256 < xs.length then 6 else if (blwS q xs && (blwS q ys && blwS q [x])) = true then (if twiceB xs = true then 8 else 0) else 2) else shE q [xs, ys, [x]] := rfl
  have KV1 := Lib.hid (fun (W : World) T => r19_valid [q, x] (some ⟨W.heap.size, 0, none⟩) 2 2 (W.alloc (.cells #[.string q, .string x] T)) rfl (by decide) (sls_two W T q x))
  have KV2 := fun w1 (h1 : Below w.heap.size w w1) => r19_valid xs A n c w1 hn hm (h.to h1)
  have KV3 := fun w1 (h1 : Below w.heap.size w w1) => r19_valid ys A2 n2 c2 w1 hn2 hm2 (h'.to h1)
  have HB0 := Lib.hid (fun o : Obj => (Below.refl w.heap.size w).alloc (Nat.le_refl _) o)
  have KF := fun w => r19_field q w
  have KB1 := fun w1 (h1 : Below w.heap.size w w1) => r19_below q xs A n c w1 hn hm (h.to h1)
  have KB2 := fun w1 (h1 : Below w.heap.size w w1) => r19_below q ys A2 n2 c2 w1 hn2 hm2 (h'.to h1)
  have KB3 := fun (W : World) T => r19_below q [x] (some ⟨W.heap.size, 0, none⟩) 1 1 (W.alloc (.cells #[.string x] T)) rfl (by decide) (sls_one W T x)
  have e2 : [q, x].all valid = (valid q && (valid x && true)) := rfl
  obtain ⟨v1, hv1⟩ : ∃ v1, v1 = (valid q && (valid x && true)) := ⟨_, rfl⟩
  obtain ⟨v2, hv2⟩ : ∃ v2, v2 = xs.all valid := ⟨_, rfl⟩
  obtain ⟨v3, hv3⟩ : ∃ v3, v3 = ys.all valid := ⟨_, rfl⟩
  have KV1 := KV1.out
  rw [e2, ← hv1] at KV1
  rw [← hv2] at KV2
  rw [← hv3] at KV3
  have KV1 := Lib.hid KV1
  have KV2 := Lib.hid KV2
  have KV3 := Lib.hid KV3
  have hbad := @shE3_bad q x xs ys
  have hgood := @shE3_good q x xs ys
  rw [← hv1, ← hv2, ← hv3] at hbad hgood
  obtain ⟨v, hvv⟩ : ∃ v, v = (v1 && (v2 && v3)) := ⟨_, rfl⟩
  rw [← hvv] at hbad hgood
  have HVV := Lib.hid hvv
  have HSX := Lib.hid h
  have HN := Lib.hid (And.intro hn (And.intro hn2 hm))
  obtain ⟨b1, hb1⟩ : ∃ b1, b1 = blwS q xs := ⟨_, rfl⟩
  obtain ⟨b2, hb2⟩ : ∃ b2, b2 = blwS q ys := ⟨_, rfl⟩
  obtain ⟨b3, hb3⟩ : ∃ b3, b3 = blwS q [x] := ⟨_, rfl⟩
  obtain ⟨r, hr⟩ : ∃ r, r = ptsE q xs ys x := ⟨_, rfl⟩
  rw [← hb1, ← hb2, ← hb3, ← hr, hn, hn2] at hev
  rw [← hr]
  rw [← hb1] at KB1
  rw [← hb2] at KB2
  rw [← hb3] at KB3
  have KB1 := Lib.hid KB1
  have KB2 := Lib.hid KB2
  have KB3 := Lib.hid KB3
  obtain ⟨e0, he0⟩ : ∃ e0, e0 = isE q := ⟨_, rfl⟩
  rw [← he0] at hgood
  simp only [← he0] at KF
  have KF := Lib.hid KF
  have HEV := Lib.hid hev
  have HBAD := Lib.hid hbad
  have HGOOD := Lib.hid hgood
  clear hn hn2 hm hm2 h h' hev e2 hv1 hv2 hv3 hvv hbad hgood hb1 hb2 hb3 hr he0
  go_enter Tryz.func39, Tryz.ntmps39
  go_upto_region 1 with fail
  go_cut [26] (fun a wx => a = .bool (!v) ∧ Below w.heap.size w wx)
  case first =>
    cases v1
    · go_wp2_with (first
        | (go_at_call 36; (with_reducible refine (KV1.out _ _).mono ?_); rintro e w1 ⟨rfl, rfl⟩))
      go_meet
      exact ⟨by rw [HVV.out]; rfl, HB0.out _⟩
    · cases v2
      · go_wp2_with (first
          | (go_at_call 36; (with_reducible refine (KV1.out _ _).mono ?_); rintro e w1 ⟨rfl, rfl⟩)
          | (go_at_call 36; (with_reducible refine (KV2.out _ (HB0.out _)).mono ?_); rintro e w1 ⟨rfl, rfl⟩))
        go_meet
        exact ⟨by rw [HVV.out]; rfl, HB0.out _⟩
      · cases v3
        all_goals
          go_wp2_with (first
            | (go_at_call 36; (with_reducible refine (KV1.out _ _).mono ?_); rintro e w1 ⟨rfl, rfl⟩)
            | (go_at_call 36; (with_reducible refine (KV2.out _ (HB0.out _)).mono ?_); rintro e w1 ⟨rfl, rfl⟩)
            | (go_at_call 36; (with_reducible refine (KV3.out _ (HB0.out _)).mono ?_); rintro e w1 ⟨rfl, rfl⟩))
          go_meet
          exact ⟨by rw [HVV.out]; rfl, HB0.out _⟩
  case rest =>
  obtain ⟨rfl, hcut⟩ := hcut
  rename World => w1
  have HB1 := Lib.hid hcut
  clear hcut KV1 KV2 KV3 HB0 HVV
  cases v
  · have HR : Hid (r = 3) := Lib.hid (by rw [HEV.out, HBAD.out rfl]; rfl)
    clear HEV HBAD HGOOD
    go_wp2_with fail
    go_ret
    exact ⟨ret_int HR.out.symm, HB1.out⟩
  · have hsh := HGOOD.out rfl
    by_cases h0 : e0 = 0
    · subst h0
      have hev := HEV.out
      rw [hsh, if_pos rfl] at hev
      clear HEV HBAD HGOOD hsh
      by_cases hl : n ≠ n2 ∨ 256 < n
      · rw [if_pos hl] at hev
        have HR := Lib.hid hev
        by_cases hne : n = n2
        · have k1 : ((n : Int) != (n2 : Int)) = false := by simp; omega
          have k1' : ((n : Int) == (n2 : Int)) = true := by simp; omega
          have k2 : decide ((256 : Int) < (n : Int)) = true := by rw [decide_eq_true_eq]; omega
          clear hl hne hev
          go_wp2_with (first
            | (go_at_call 37; (with_reducible refine (KF.out _).mono ?_); rintro e w2 ⟨rfl, hb2⟩; have HB2 := Lib.hid (below2 HB1.out hb2); clear hb2))
          go_ret
          exact ⟨ret_int HR.out.symm, HB2.out⟩
        · have k1 : ((n : Int) != (n2 : Int)) = true := by simp; omega
          have k1' : ((n : Int) == (n2 : Int)) = false := by simp; omega
          clear hl hne hev
          go_wp2_with (first
            | (go_at_call 37; (with_reducible refine (KF.out _).mono ?_); rintro e w2 ⟨rfl, hb2⟩; have HB2 := Lib.hid (below2 HB1.out hb2); clear hb2))
          go_ret
          exact ⟨ret_int HR.out.symm, HB2.out⟩
      · rw [if_neg hl] at hev
        obtain rfl : n = n2 := by omega
        have k1 : ((n : Int) != (n : Int)) = false := by simp
        have k1' : ((n : Int) == (n : Int)) = true := by simp
        have k2 : decide ((256 : Int) < (n : Int)) = false := by rw [decide_eq_false_iff_not]; omega
        have HEV := Lib.hid hev
        have HL := Lib.hid (show n ≤ 256 by omega)
        clear hl hev
        go_upto_region 8 with (first
          | (go_at_call 37; (with_reducible refine (KF.out _).mono ?_); rintro e w2 ⟨rfl, hb2⟩; have HB2 := Lib.hid (below2 HB1.out hb2); clear hb2))
        clear k1 k1' k2
        go_cut [58] (fun a wx => a = .bool (!(b1 && (b2 && b3))) ∧ Below w.heap.size w wx)
        case first =>
          cases b3
          · go_wp2_with (first
              | (go_at_call 56; (with_reducible refine (KB3.out _ _).mono ?_); rintro e w3 ⟨rfl, hb3⟩; have HB3 := Lib.hid (below2 (HB2.out.alloc HB2.out.size _) hb3); clear hb3))
            go_meet
            exact ⟨by cases b1 <;> cases b2 <;> rfl, HB3.out⟩
          · cases b1
            · go_wp2_with (first
                | (go_at_call 56; (with_reducible refine (KB3.out _ _).mono ?_); rintro e w3 ⟨rfl, hb3⟩; have HB3 := Lib.hid (below2 (HB2.out.alloc HB2.out.size _) hb3); clear hb3)
                | (go_at_call 56; (with_reducible refine (KB1.out _ HB3.out).mono ?_); rintro e w4 ⟨rfl, hb4⟩; have HB4 := Lib.hid (below2 HB3.out hb4); clear hb4))
              go_meet
              exact ⟨by cases b2 <;> rfl, HB4.out⟩
            · cases b2
              all_goals
                go_wp2_with (first
                  | (go_at_call 56; (with_reducible refine (KB3.out _ _).mono ?_); rintro e w3 ⟨rfl, hb3⟩; have HB3 := Lib.hid (below2 (HB2.out.alloc HB2.out.size _) hb3); clear hb3)
                  | (go_at_call 56; (with_reducible refine (KB1.out _ HB3.out).mono ?_); rintro e w4 ⟨rfl, hb4⟩; have HB4 := Lib.hid (below2 HB3.out hb4); clear hb4)
                  | (go_at_call 56; (with_reducible refine (KB2.out _ HB4.out).mono ?_); rintro e w5 ⟨rfl, hb5⟩; have HB5 := Lib.hid (below2 HB4.out hb5); clear hb5))
                go_meet
                exact ⟨rfl, HB5.out⟩
        case rest =>
        obtain ⟨rfl, hcut⟩ := hcut
        rename World => w6
        have HB6 := Lib.hid hcut
        clear hcut KB1 KB2 KB3 HB2 HB1 KF
        cases hbb : (b1 && (b2 && b3))
        · have HR : Hid (r = 2) := Lib.hid (by rw [HEV.out, hbb]; rfl)
          clear HEV hbb
          go_wp2_with fail
          go_ret
          exact ⟨ret_int HR.out.symm, HB6.out⟩
        · have hev := HEV.out
          rw [hbb, if_pos rfl] at hev
          have HEV2 := Lib.hid hev
          clear HEV hbb hev
          go_wp2_with fail
          go_loopw [10] (fun v wr => ∃ i : Nat, v = .int .i64 i ∧ i ≤ n ∧ twiceB (xs.take i) = false ∧ Below w.heap.size w wr) (fun v _ => n - (intOf v).toNat)
          case atStart => exact ⟨0, rfl, Nat.zero_le _, by rw [List.take_zero]; rfl, HB6.out⟩
          case round =>
            clear HB6
            rename World => wi
            obtain ⟨i, rfl, hi, htw, hbi⟩ := hrel
            have HTW := Lib.hid htw
            have HBI := Lib.hid hbi
            by_cases hin : i < n
            · have k1 : decide ((i : Int) < (n : Int)) = true := decide_eq_true (by omega)
              have HIN := Lib.hid hin
              clear htw hbi hi hin
              go_wp2_with fail
              go_loopw [11] (fun v wj => ∃ k : Nat, v = .int .i64 k ∧ k ≤ i ∧ (∀ t, t < k → ((xs.getD i ByteArray.empty).toList == (xs.getD t ByteArray.empty).toList) = false) ∧ Below w.heap.size w wj) (fun v _ => i - (intOf v).toNat)
              case atStart => exact ⟨0, rfl, Nat.zero_le _, fun t ht => absurd ht (Nat.not_lt_zero _), HBI.out⟩
              case round =>
                clear HBI
                rename World => wj
                obtain ⟨k, rfl, hk, hno, hbj⟩ := hrel
                have HNO := Lib.hid hno
                have HBJ := Lib.hid hbj
                by_cases hki : k < i
                · obtain ⟨ad, rfl, hci⟩ := (HSX.out.to hbj).at_ (k := i) (by rw [HN.out.1]; exact HIN.out)
                  obtain ⟨ad', e', hck⟩ := (HSX.out.to hbj).at_ (k := k) (by rw [HN.out.1]; have := HIN.out; omega)
                  cases e'
                  obtain ⟨S, hS⟩ : ∃ S, S = xs.getD i ByteArray.empty := ⟨_, rfl⟩
                  obtain ⟨T, hT⟩ : ∃ T, T = xs.getD k ByteArray.empty := ⟨_, rfl⟩
                  rw [← hS] at hci
                  rw [← hT] at hck
                  have HST := Lib.hid (And.intro hS (And.intro hT hki))
                  have k2 : decide ((k : Int) < (i : Int)) = true := decide_eq_true (by omega)
                  have k2' : decide (k < i) = true := decide_eq_true hki
                  have i1 : (i : Int) < (n : Int) := by have := HIN.out; omega
                  have i2 : (0 : Int) ≤ (i : Int) := by omega
                  have i3 : (k : Int) < (n : Int) := by have := HIN.out; omega
                  have i4 : (0 : Int) ≤ (k : Int) := by omega
                  obtain ⟨b, hb⟩ : ∃ b, (S.toList == T.toList) = b := ⟨_, rfl⟩
                  have HBB := Lib.hid hb
                  clear hno hbj hk hki hS hT
                  go_upto_region 16 with fail
                  cases b
                  · go_region_held3 (fun w' => w'.cell? (ad.add i) = some (.string S) ∧ w'.cell? (ad.add k) = some (.string T)) (first | go_keep) (fail)
                    all_goals
                      go_wp2_with fail
                      go_roundw
                      case rel =>
                        have hno2 : ∀ t, t < k + 1 → ((xs.getD i ByteArray.empty).toList == (xs.getD t ByteArray.empty).toList) = false := fun t ht => by
                          by_cases e : t = k
                          · subst e; rw [← HST.out.1, ← HST.out.2.1]; exact HBB.out
                          · exact HNO.out t (by omega)
                        first
                          | exact ⟨k + 1, stp64 HST.out.2.2 (by have := HIN.out; have := HL.out; omega), HST.out.2.2, hno2, HBJ.out⟩
                          | exact ⟨k + 1, stp64 HST.out.2.2 (by have := HIN.out; have := HL.out; omega), HST.out.2.2, hno2, HBJ.out.drew⟩
                      case measure => exact mes64 HST.out.2.2 (by have := HIN.out; have := HL.out; omega)
                  · have HR : Hid (r = 8) := Lib.hid (by
                      rw [HEV2.out, if_pos (twice_hit (i := i) (k := k) (by rw [HN.out.1]; exact HIN.out) HST.out.2.2 (by rw [← HST.out.1, ← HST.out.2.1]; exact HBB.out))])
                    go_region_held3 (fun w' => w'.cell? (ad.add i) = some (.string S) ∧ w'.cell? (ad.add k) = some (.string T)) (first | go_keep) (fail)
                    all_goals
                      go_wp2_with fail
                      go_ret
                      first
                        | exact ⟨ret_int HR.out.symm, HBJ.out⟩
                        | exact ⟨ret_int HR.out.symm, HBJ.out.drew⟩
                · obtain rfl : k = i := by omega
                  have k2 : decide ((k : Int) < (k : Int)) = false := decide_eq_false (by omega)
                  have k2' : decide (k < k) = false := decide_eq_false (by omega)
                  clear hno hbj hk hki
                  go_wp2_with fail
                  go_roundw
                  case rel => exact ⟨k + 1, stp64 HIN.out (by have := HL.out; omega), HIN.out, twice_step (by rw [HN.out.1]; exact HIN.out) HTW.out HNO.out, HBJ.out⟩
                  case measure => exact mes64 HIN.out (by have := HL.out; omega)
            · obtain rfl : i = n := by omega
              have k1 : decide ((i : Int) < (i : Int)) = false := decide_eq_false (by omega)
              have HR : Hid (r = 0) := Lib.hid (by
                have h1 := HTW.out
                rw [List.take_of_length_le (by rw [HN.out.1]; exact Nat.le_refl _)] at h1
                rw [HEV2.out, h1]; rfl)
              clear htw hbi hi hin
              go_wp2_with fail
              go_ret
              exact ⟨ret_int HR.out.symm, HBI.out⟩
    · have k0 : (e0 == 0) = false := by rw [beq_eq_false_iff_ne]; exact h0
      have HR : Hid (r = e0) := Lib.hid (by rw [HEV.out, hsh, if_neg h0])
      clear HEV HBAD HGOOD hsh h0
      go_wp2_with (first
        | (go_at_call 37; (with_reducible refine (KF.out _).mono ?_); rintro e w2 ⟨rfl, hb2⟩; have HB2 := Lib.hid (below2 HB1.out hb2); clear hb2))
      go_ret
      exact ⟨ret_int HR.out.symm, HB2.out⟩

end Go.Proofs.YtapplggboepfaaaGreatDoor
