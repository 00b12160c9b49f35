/- The reference's shamir (19): Combine = combS. -/
import Derived.Test.YtapplggboepfaaaGreatDoorJq
namespace Go.Proofs.YtapplggboepfaaaGreatDoor
open Go.RowKit
set_option maxRecDepth 100000
set_option linter.unusedVariables false
set_option linter.unusedSimpArgs false
set_option maxHeartbeats 8000000

theorem twice_idx : ∀ {is : List Int}, is.all idxP = true → twiceB (idxB is) = twiceI is
  | [], _ => rfl
  | z :: l, h => by
    simp only [List.all_cons, Bool.and_eq_true] at h
    have ih := twice_idx h.2
    have e : idxB (z :: l) = B z.toNat :: idxB l := rfl
    rw [e]
    unfold twiceB twiceI
    rw [ih]
    congr 1
    unfold idxB idxN
    rw [List.map_map, List.any_map]
    rw [Bool.eq_iff_iff, List.any_eq_true, List.any_eq_true]
    have hz := h.1
    unfold idxP at hz
    rw [decide_eq_true_eq] at hz
    constructor
    · rintro ⟨y, hy, he⟩
      refine ⟨y, hy, ?_⟩
      have hy2 := List.all_eq_true.1 h.2 y hy
      unfold idxP at hy2
      rw [decide_eq_true_eq] at hy2
      simp only [Function.comp] at he
      rw [B_beq, decide_eq_true_eq] at he
      rw [beq_iff_eq]; omega
    · rintro ⟨y, hy, he⟩
      refine ⟨y, hy, ?_⟩
      rw [beq_iff_eq] at he
      subst he
      simp
theorem num_nil : num (⟨#[]⟩ : ByteArray) = 0 := by decide
theorem comb_int {q : ByteArray} {is : List Int} {ys : List ByteArray} (h0 : shE q [ys] = 0) (hl : is.length = ys.length) (h256 : is.length ≤ 256) (hne : is.length ≠ 0) (ha : is.all idxP = true) : intS q (idxB is) ys ⟨#[]⟩ = combS q is ys := by
  have hsh := shE_zero h0
  have hQ := isE_zero hsh.2
  have hyv := hsh.1 ys (by simp)
  have hlen : (idxB is).length = is.length := by unfold idxB idxN; rw [List.length_map, List.length_map]
  have hE : shE q [idxB is, ys, [⟨#[]⟩]] = 0 := by
    unfold shE
    rw [if_pos (by simp [idxB_valid ha, hyv]; decide), hsh.2]
  have hqv : valid q = true := by rw [hQ.eq]; exact valid_B (u64_lt_lim hQ.lt)
  have hb0 : blwS q [⟨#[]⟩] = true := by
    unfold blwS
    rw [List.all_eq_true]
    intro x hx
    rcases List.mem_cons.1 hx with rfl | hx
    · rw [decide_eq_true_eq, natCmp_lt (by decide) hqv, num_nil]
      have := hQ.two
      omega
    · cases hx
  have hp : ptsE q (idxB is) ys ⟨#[]⟩ = if (blwS q (idxB is) && blwS q ys) = true then (if twiceI is = true then 8 else 0) else 2 := by
    unfold ptsE
    rw [hE, if_pos rfl, hlen, hb0, Bool.and_true, twice_idx ha]
    rw [if_neg (by omega)]
  have hc : combS q is ys = if (blwS q (idxB is) && blwS q ys) = true then (if twiceI is = true then (⟨#[]⟩, 8) else (B (valL (num q) 0 (thruL (num q) (idxN is) (ys.map num))), 0)) else (⟨#[]⟩, 2) := by
    unfold combS
    rw [h0, if_pos rfl, if_neg (by omega), if_pos ha]
  unfold intS
  rw [hp, hc, idxB_num, num_nil]
  cases blwS q (idxB is) && blwS q ys
  · rfl
  · cases twiceI is
    · rfl
    · rfl
theorem wrapR' {z : Int} (h : Hid (1 ≤ z ∧ z ≤ 255)) (w : World) : Calls Tryz.prog 24 #[.int .u64 (IntKind.u64.wrap z)] w fun e w' => e = .returned (.string (B z.toNat)) ∧ Below w.heap.size w w' :=
  r01_Of' _ z.toNat w (wrapU_small h.out) (by have := h.out; omega)
theorem r19_Combine (q : ByteArray) (is : List Int) (ys : List ByteArray) (A A2 : Option Addr) (n n2 c c2 : Nat) (w : World) (hn : is.length = n) (hn2 : ys.length = n2) (hm : n ≤ 1000) (hm2 : n2 ≤ 1000) (h : ISl w w.heap.size A is) (h' : SLs w w.heap.size A2 ys) :
    Calls Tryz.prog 13 #[.string q, .slice A n c, .slice A2 n2 c2] w fun e w' => e = .returned (.tuple #[.string (combS q is ys).1, .int .i64 (combS q is ys).2]) ∧ Below w.heap.size w w' := by
  have KV1 := fun (W : World) T => r19_valid [q] (some ⟨W.heap.size, 0, none⟩) 1 1 (W.alloc (.cells #[.string q] T)) rfl (by decide) (sls_one W T q)
  have KV2 := fun w1 (h1 : Below w.heap.size w w1) => r19_valid ys A2 n2 c2 w1 hn2 hm2 (h'.to h1)
  have HB0 := Lib.hid (fun o : Obj => (Below.refl w.heap.size w).alloc (Nat.le_refl _) o)
  have KF := fun w => r19_field q w
  have e2 : [q].all valid = (valid q && true) := rfl
  rw [e2] at KV1
  obtain ⟨v1, hv1⟩ : ∃ v1, v1 = (valid q && true) := ⟨_, rfl⟩
  obtain ⟨v2, hv2⟩ : ∃ v2, v2 = ys.all valid := ⟨_, rfl⟩
  rw [← hv1] at KV1
  rw [← hv2] at KV2
  have KV1 := Lib.hid KV1
  have KV2 := Lib.hid KV2
  have hbad : (v1 && v2) = false → shE q [ys] = 3 := fun hh => by
    unfold shE
    by_cases hv : [ys].all (fun l => l.all valid) = true
    · rw [if_pos hv]
      simp only [List.all_cons, List.all_nil, Bool.and_true] at hv
      rw [hv2, hv, Bool.and_true, hv1, Bool.and_true] at hh
      exact isE_bad hh
    · rw [if_neg hv]
  have hgood : (v1 && v2) = true → shE q [ys] = isE q := fun hh => by
    unfold shE
    rw [if_pos]
    simp only [Bool.and_eq_true] at hh
    simp [← hv2, hh.2]
  obtain ⟨v, hvv⟩ : ∃ v, v = (v1 && v2) := ⟨_, rfl⟩
  rw [← hvv] at hbad hgood
  have HVV := Lib.hid hvv
  obtain ⟨r, hr⟩ : ∃ r, r = combS q is ys := ⟨_, rfl⟩
  have hrc := hr
  rw [← hr]
  unfold combS at hr
  have hci : shE q [ys] = 0 → n = n2 → n ≤ 256 → n ≠ 0 → is.all idxP = true → intS q (idxB is) ys ⟨#[]⟩ = r := fun a b c d e => by
    rw [hrc]; exact comb_int a (by omega) (by omega) (by omega) e
  obtain ⟨s0, hs0⟩ : ∃ s0, s0 = shE q [ys] := ⟨_, rfl⟩
  rw [← hs0] at hr hbad hgood hci
  obtain ⟨e0, he0⟩ : ∃ e0, e0 = isE q := ⟨_, rfl⟩
  rw [← he0] at hgood
  simp only [← he0] at KF
  have KF := Lib.hid KF
  rw [hn, hn2] at hr
  have HR := Lib.hid hr
  have HBAD := Lib.hid hbad
  have HGOOD := Lib.hid hgood
  have HCI := Lib.hid hci
  have HN := Lib.hid hn
  have HN2 := Lib.hid hn2
  have HS := Lib.hid h
  have HS2 := Lib.hid h'
  have HM := Lib.hid (And.intro hm hm2)
  clear hn hn2 hm hm2 h h' e2 hv1 hv2 hbad hgood hr hrc hci hs0 he0 hvv
  go_enter Tryz.func13, Tryz.ntmps13
  go_upto_region 1 with fail
  go_cut [19] (fun a wx => a = .bool (!v) ∧ Below w.heap.size w wx)
  case first =>
    cases v1
    · go_wp2_with (first
        | (go_at_call 36; (with_reducible refine (KV1.out _ _).mono ?_); rintro e w1 ⟨rfl, rfl⟩))
      go_meet
      exact ⟨by rw [HVV.out]; rfl, HB0.out _⟩
    · cases v2
      all_goals
        go_wp2_with (first
          | (go_at_call 36; (with_reducible refine (KV1.out _ _).mono ?_); rintro e w1 ⟨rfl, rfl⟩)
          | (go_at_call 36; (with_reducible refine (KV2.out _ (HB0.out _)).mono ?_); rintro e w1 ⟨rfl, rfl⟩))
        go_meet
        exact ⟨by rw [HVV.out]; rfl, HB0.out _⟩
  case rest =>
  obtain ⟨rfl, hcut⟩ := hcut
  rename World => w1
  have HB1 := Lib.hid hcut
  clear hcut KV1 KV2 HB0 HVV
  cases v
  · have hb := HBAD.out rfl
    have HE : Hid (r = (⟨#[]⟩, 3)) := Lib.hid (by rw [HR.out, hb]; rfl)
    clear hb HR HBAD HGOOD HCI
    go_wp2_with fail
    go_ret2
    exact ⟨ret_se (by rw [HE.out]) (by rw [HE.out]), HB1.out⟩
  · have hb := HGOOD.out rfl
    clear HBAD HGOOD
    by_cases h0 : e0 = 0
    · subst h0
      subst hb
      have hr := HR.out
      rw [if_pos rfl] at hr
      by_cases hl : n = 0 ∨ n ≠ n2 ∨ 256 < n
      · rw [if_pos hl] at hr
        have HE := Lib.hid hr
        clear HR HCI hr
        by_cases hz : n = 0
        · subst hz
          clear hl
          go_wp2_with (first
            | (go_at_call 37; (with_reducible refine (KF.out _).mono ?_); rintro e w2 ⟨rfl, hb2⟩; have HB2 := Lib.hid (below2 HB1.out hb2); clear hb2))
          go_ret2
          exact ⟨ret_se (by rw [HE.out]) (by rw [HE.out]), HB2.out⟩
        · have kz : ((n : Int) == 0) = false := by simp; omega
          by_cases hne : n = n2
          · have k1 : ((n : Int) != (n2 : Int)) = false := by simp; omega
            have k1' : ((n : Int) == (n2 : Int)) = true := by simp; omega
            have k2 : decide ((256 : Int) < (n : Int)) = true := by rw [decide_eq_true_eq]; omega
            clear hl hne hz
            go_wp2_with (first
              | (go_at_call 37; (with_reducible refine (KF.out _).mono ?_); rintro e w2 ⟨rfl, hb2⟩; have HB2 := Lib.hid (below2 HB1.out hb2); clear hb2))
            go_ret2
            exact ⟨ret_se (by rw [HE.out]) (by rw [HE.out]), HB2.out⟩
          · have k1 : ((n : Int) != (n2 : Int)) = true := by simp; omega
            have k1' : ((n : Int) == (n2 : Int)) = false := by simp; omega
            clear hl hne hz
            go_wp2_with (first
              | (go_at_call 37; (with_reducible refine (KF.out _).mono ?_); rintro e w2 ⟨rfl, hb2⟩; have HB2 := Lib.hid (below2 HB1.out hb2); clear hb2))
            go_ret2
            exact ⟨ret_se (by rw [HE.out]) (by rw [HE.out]), HB2.out⟩
      · rw [if_neg hl] at hr
        obtain rfl : n = n2 := by omega
        have kz : ((n : Int) == 0) = false := by simp; omega
        have k1 : ((n : Int) != (n : Int)) = false := by simp
        have k1' : ((n : Int) == (n : Int)) = true := by simp
        have k2 : decide ((256 : Int) < (n : Int)) = false := by rw [decide_eq_false_iff_not]; omega
        have HL := Lib.hid (show n ≤ 256 ∧ n ≠ 0 by omega)
        have HR2 := Lib.hid hr
        clear hl hr HR
        go_wp2_with (first
          | (go_at_call 37; (with_reducible refine (KF.out _).mono ?_); rintro e w2 ⟨rfl, hb2⟩; have HB2 := Lib.hid (below2 HB1.out hb2); clear hb2))
        clear kz k1 k1' k2
        go_loopw [9, 10] (fun v9 v wr => ∃ k : Nat, v = .int .i64 k ∧ k ≤ n ∧ (∀ j, j < k → idxP (is.getD j 0) = true) ∧ OwnS wr w.heap.size v9 k (idxB (is.take k)) ∧ Below w.heap.size w wr) (fun _ v _ => n - (intOf v).toNat)
        case atStart => exact ⟨0, rfl, Nat.zero_le _, fun j hj => absurd hj (Nat.not_lt_zero _), by rw [List.take_zero]; exact OwnS.nil_ _ _, HB2.out⟩
        case round =>
          clear HB2 HB1
          obtain ⟨k, rfl, hk, hok, hown, hbel⟩ := hrel
          have HOK := Lib.hid hok
          have HOWN := Lib.hid hown
          have HBEL := Lib.hid hbel
          clear hok hown hbel
          by_cases hlt : k < n
          · obtain ⟨ad, rfl, hc⟩ := (HS.out.below HBEL.out).at_ (k := k) (by rw [HN.out]; exact hlt)
            have htk := idxB_take (is := is) (k := k) (by rw [HN.out]; exact hlt)
            have hfa := all_falseI (is := is) (p := idxP) (k := k) (by rw [HN.out]; exact hlt)
            have hnx : idxP (is.getD k 0) = true → ∀ j, j < k + 1 → idxP (is.getD j 0) = true := fun h1 j hj => by
              by_cases e : j = k
              · rw [e]; exact h1
              · exact HOK.out j (by omega)
            obtain ⟨z, hz⟩ : ∃ z, is.getD k 0 = z := ⟨_, rfl⟩
            rw [hz] at hc htk hfa hnx
            have HTK := Lib.hid htk
            have HNX := Lib.hid hnx
            have HLT := Lib.hid hlt
            have j1 : decide (k < n) = true := decide_eq_true hlt
            have i1 : (k : Int) < (n : Int) := by omega
            have i2 : (0 : Int) ≤ (k : Int) := by omega
            cases hp : idxP z
            · have HE : Hid (r = (⟨#[]⟩, 2)) := Lib.hid (by rw [HR2.out, hfa hp]; rfl)
              have hz2 : ¬ (1 ≤ z ∧ z ≤ 255) := by unfold idxP at hp; rwa [decide_eq_false_iff_not] at hp
              by_cases hz1 : z < 1
              · have p1 : decide (z < 1) = true := decide_eq_true hz1
                clear hz htk hfa hnx hlt hz2 hp hz1
                go_wp2_with fail
                go_ret2
                exact ⟨ret_se (by rw [HE.out]) (by rw [HE.out]), HBEL.out⟩
              · have p1 : decide (z < 1) = false := decide_eq_false hz1
                have p2 : decide (255 < z) = true := decide_eq_true (by omega)
                clear hz htk hfa hnx hlt hz2 hp hz1
                go_wp2_with fail
                go_ret2
                exact ⟨ret_se (by rw [HE.out]) (by rw [HE.out]), HBEL.out⟩
            · have HP := Lib.hid hp
              have hz2 : 1 ≤ z ∧ z ≤ 255 := by unfold idxP at hp; rwa [decide_eq_true_eq] at hp
              have p1 : decide (z < 1) = false := decide_eq_false (by omega)
              have p2 : decide (255 < z) = false := decide_eq_false (by omega)
              have HZ := Lib.hid hz2
              clear hz htk hfa hnx hlt hz2 hp
              go_wp2_with (first
                | (go_at_call 24; (with_reducible refine (wrapR' HZ _).mono ?_); rintro e w2 ⟨rfl, hb2⟩; have HB2 := Lib.hid hb2; have hcs := comb_step HOWN.out HBEL.out hb2 (B z.toNat); have HOW2 := Lib.hid hcs.1; have HBA := Lib.hid hcs.2; clear hcs hb2)
                | (at_builtin; refine wpList_append_S rfl (.tmp 58) (.tmp 65) rfl w.heap.size _ k _ rfl HOW2.out _ 1 1 [B z.toNat] rfl (sls_one _ _ _) rfl (by have := HL.out; omega) HBA.out.size ?_; intro v5 w5 h1' h2' h3'; rw [← HTK.out] at h1'; have HO5 := Lib.hid h1'; have HB5 := Lib.hid (HBA.out.trans (below_grown h2' HBA.out.size (fun g hg => (HOW2.out.blockOf g hg).1))); clear h1' h2' h3'))
              go_roundw
              case rel => exact ⟨k + 1, stp64 HLT.out (by have := HL.out; omega), HLT.out, HNX.out HP.out, HO5.out, HB5.out⟩
              case measure => exact mes64 HLT.out (by have := HL.out; omega)
          · obtain rfl : k = n := by omega
            have j1 : decide (k < k) = false := decide_eq_false (Nat.lt_irrefl _)
            obtain ⟨A', c', rfl, hsl⟩ := HOWN.out.form HBEL.out.size
            rw [List.take_of_length_le (by rw [HN.out]; exact Nat.le_refl _)] at hsl
            have hall : is.all idxP = true := all_of_at (fun j hj => HOK.out j (by rw [← HN.out]; exact hj))
            have hlen : (idxB is).length = k := by unfold idxB idxN; rw [List.length_map, List.length_map]; exact HN.out
            have KI := r19_Interpolate q ⟨#[]⟩ (idxB is) ys A' A2 k k c' c2 wr hlen HN2.out (by have := HL.out; omega) (by have := HL.out; omega) hsl (HS2.out.to HBEL.out)
            rw [HCI.out (by first | rfl | trivial) (by first | rfl | trivial) HL.out.1 HL.out.2 hall] at KI
            have KI := Lib.hid KI
            clear hlt hk hsl hall hlen HR2 HCI
            go_wp2_with (first
              | (go_at_call 18; (with_reducible refine KI.out.mono ?_); rintro e w2 ⟨rfl, hb2⟩; have HB2 := Lib.hid (below2 HBEL.out hb2); clear hb2))
            go_ret2
            exact ⟨rfl, HB2.out⟩
    · have k0 : (e0 == 0) = false := by rw [beq_eq_false_iff_ne]; exact h0
      subst hb
      have HE : Hid (r = (⟨#[]⟩, s0)) := Lib.hid (by rw [HR.out, if_neg h0])
      clear h0 HR HCI
      go_wp2_with (first
        | (go_at_call 37; (with_reducible refine (KF.out _).mono ?_); rintro e w2 ⟨rfl, hb2⟩; have HB2 := Lib.hid (below2 HB1.out hb2); clear hb2))
      go_ret2
      exact ⟨ret_se (by rw [HE.out]) (by rw [HE.out]), HB2.out⟩

end Go.Proofs.YtapplggboepfaaaGreatDoor
