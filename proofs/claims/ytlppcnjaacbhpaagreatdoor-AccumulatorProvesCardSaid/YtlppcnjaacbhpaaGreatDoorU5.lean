/- The walks of package accumulator: lists of numbers, sets, powers. -/
import Derived.Test.YtlppcnjaacbhpaaGreatDoorU3
import Derived.Test.YtlppcnjaacbhpaaGreatDoorU4
namespace Go.Proofs.YtlppcnjaacbhpaaGreatDoor
open Go.RowKit
set_option maxRecDepth 100000
set_option linter.unusedVariables false
set_option maxHeartbeats 1000000

theorem acc_valid (ls : List ByteArray) (A : Option Addr) (n c b : Nat) (w : World) (hn : ls.length = n) (hm : n ≤ 1000) (h : SLs w b A ls) :
    Calls Tryz.prog 41 #[.slice A n c] w fun e w' => e = .returned (.bool (ls.all valid)) ∧ w = w' := by
  have HN := Lib.hid hn
  have HS := Lib.hid h
  clear hn h
  go_enter Tryz.func41, Tryz.ntmps41
  go_wp2
  go_loop [7] (fun c => ∃ k : Nat, k ≤ n ∧ c = .int .i64 k ∧ ∀ j, j < k → valid (ls.getD j ByteArray.empty) = true) (fun c => n - (intOf c).toNat)
  case atStart => exact ⟨0, by omega, rfl, fun j h => absurd h (by omega)⟩
  case round =>
    obtain ⟨k, hk, rfl, hall⟩ := hrel
    have HA := Lib.hid hall
    clear hall
    by_cases hlt : k < n
    · obtain ⟨ad, rfl, hc⟩ := HS.out.at_ (k := k) (by rw [HN.out]; exact hlt)
      obtain ⟨s, hs⟩ : ∃ s, ls.getD k ByteArray.empty = s := ⟨_, rfl⟩
      rw [hs] at hc
      have HSS := Lib.hid hs
      clear hs
      cases hv : valid s
      · have HF : Hid (ls.all valid = false) := Lib.hid (all_not' (k := k) (by rw [HN.out]; exact hlt) (by rw [HSS.out]; exact hv))
        go_wp2_with (go_at_call 60; refine (natural_Valid _ _).mono ?_; rintro e w' ⟨rfl, rfl⟩)
        go_ret
        exact ⟨ret_bool HF.out.symm, rfl⟩
      · have HV := Lib.hid hv
        clear hv
        have hck := natural_Valid s
        rw [HV.out] at hck
        have HCK := Lib.hid hck
        clear hck
        go_wp2_with (go_at_call 60; refine (HCK.out _).mono ?_; rintro e w' ⟨rfl, rfl⟩)
        go_round
        case rel => exact ⟨k + 1, by omega, by go_num, fun j hj => by
          by_cases e : j = k
          · subst e; rw [HSS.out]; exact HV.out
          · exact HA.out j (by omega)⟩
        case measure => simp [intOf]; omega
    · obtain rfl : k = n := by omega
      have HF : Hid (ls.all valid = true) := Lib.hid (all_of' (fun j hj => HA.out j (by rw [HN.out] at hj; exact hj)))
      go_wp2
      go_ret
      exact ⟨ret_bool HF.out.symm, rfl⟩
theorem any_at' {ls : List ByteArray} {p : ByteArray → Bool} {k : Nat} (hk : k < ls.length) (h : p (ls.getD k ByteArray.empty) = true) : ls.any p = true := by
  rw [List.any_eq_true]; exact ⟨ls[k], List.getElem_mem hk, by rw [sgetD_lt hk] at h; exact h⟩
theorem any_none' {ls : List ByteArray} {p : ByteArray → Bool} (h : ∀ j, j < ls.length → p (ls.getD j ByteArray.empty) = false) : ls.any p = false := by
  rw [List.any_eq_false]
  intro x hx
  obtain ⟨i, hi, rfl⟩ := List.getElem_of_mem hx
  have := h i hi
  rw [sgetD_lt hi] at this
  simp [this]
theorem GrAt.sls {w wx : World} {g : Nat} {m o : ByteArray} {A : Option Addr} {ls : List ByteArray} (h : GrAt w g m o wx) (hs : SLs w w.heap.size A ls) : SLs wx w.heap.size A ls := hs.below h.below
theorem acc_ready (m o : ByteArray) (els hs : List ByteArray) (A1 A2 : Option Addr) (n1 n2 c1 c2 : Nat) (w : World) (sm : m.size ≤ 8) (e1 : els.length = n1) (e2 : hs.length = n2) (b1 : n1 ≤ 1000) (b2 : n2 ≤ 1000)
    (h1 : SLs w w.heap.size A1 els) (h2 : SLs w w.heap.size A2 hs) :
    Calls Tryz.prog 24 #[.agg #[.string m, .string o], .slice A1 n1 c1, .slice A2 n2 c2] w fun e w' => e = .returned (.int .i64 (readyS m o els hs)) ∧ Below w.heap.size w w' := by
  have hr : readyS m o els hs = if (els.all valid && (hs.all valid && (valid m && valid o))) = true then
    if groupE m o = 0 then (if els.all (hasG m o) = true then (if hs.any (fun u => u.toList.isEmpty) = true then 11 else 0) else 13) else groupE m o else 3 := rfl
  have HR := Lib.hid hr
  have HE1 := Lib.hid e1
  have HE2 := Lib.hid e2
  have H1 := Lib.hid h1
  have H2 := Lib.hid h2
  have HS := Lib.hid (GrAt.box w m o 24)
  have hv1 := fun w b h => acc_valid els A1 n1 c1 b w e1 b1 h
  have hv2 := fun w b h => acc_valid hs A2 n2 c2 b w e2 b2 h
  have hrow : SLs ((w.alloc (.cells #[.string m, .string o] 24)).alloc (.cells #[.string m, .string o] 22)) (w.heap.size + 1 + 1) (some ⟨w.heap.size + 1, 0, none⟩) [m, o] := by
    have := SRow.new (w.alloc (.cells #[.string m, .string o] 24)) 22 [m, o]
    simp only [World.size_alloc] at this
    exact SLs.of_row this (by omega)
  have HV3 := Lib.hid (acc_valid [m, o] (some ⟨w.heap.size + 1, 0, none⟩) 2 2 _ _ rfl (by decide) hrow)
  have HCK := Lib.hid (fun w => power_Check m o w sm)
  clear hr e1 e2 h1 h2 hrow
  cases va : els.all valid
  · rw [va] at hv1
    have HV1 := Lib.hid hv1
    have HF : Hid (readyS m o els hs = 3) := Lib.hid (by rw [HR.out, va]; rfl)
    clear hv1 hv2 va
    go_enter Tryz.func24, Tryz.ntmps24
    go_wp2_with (first | (go_at_call 41; (with_reducible refine (HV1.out _ _ (HS.out.sls H1.out)).mono ?_); rintro e w' ⟨rfl, rfl⟩))
    go_ret
    exact ⟨ret_int HF.out.symm, HS.out.below⟩
  · cases vb : hs.all valid
    · rw [va] at hv1
      rw [vb] at hv2
      have HV1 := Lib.hid hv1
      have HV2 := Lib.hid hv2
      have HF : Hid (readyS m o els hs = 3) := Lib.hid (by rw [HR.out, va, vb]; rfl)
      clear hv1 hv2 va vb
      go_enter Tryz.func24, Tryz.ntmps24
      go_wp2_with (first | (go_at_call 41; (with_reducible refine (HV1.out _ _ (HS.out.sls H1.out)).mono ?_); rintro e w' ⟨rfl, rfl⟩) | (go_at_call 41; (with_reducible refine (HV2.out _ _ (HS.out.sls H2.out)).mono ?_); rintro e w' ⟨rfl, rfl⟩))
      go_ret
      exact ⟨ret_int HF.out.symm, HS.out.below⟩
    · rw [va] at hv1
      rw [vb] at hv2
      have HV1 := Lib.hid hv1
      have HV2 := Lib.hid hv2
      cases vc : (valid m && valid o)
      · have HF : Hid (readyS m o els hs = 3) := Lib.hid (by rw [HR.out, va, vb, vc]; rfl)
        have hvm : ([m, o].all valid) = false := by simp only [List.all_cons, List.all_nil, Bool.and_true]; exact vc
        rw [hvm] at HV3
        clear hv1 hv2 va vb vc hvm
        go_enter Tryz.func24, Tryz.ntmps24
        go_wp2_with (first | (go_at_call 41; (with_reducible refine (HV1.out _ _ (HS.out.sls H1.out)).mono ?_); rintro e w' ⟨rfl, rfl⟩) | (go_at_call 41; (with_reducible refine (HV2.out _ _ (HS.out.sls H2.out)).mono ?_); rintro e w' ⟨rfl, rfl⟩) | (go_at_call 41; (with_reducible refine HV3.out.mono ?_); rintro e w' ⟨rfl, rfl⟩))
        go_ret
        exact ⟨ret_int HF.out.symm, (HS.out.alloc _).below⟩
      · have hvm : ([m, o].all valid) = true := by simp only [List.all_cons, List.all_nil, Bool.and_true]; exact vc
        rw [hvm] at HV3
        have hr2 : readyS m o els hs = if groupE m o = 0 then (if els.all (hasG m o) = true then (if hs.any (fun u => u.toList.isEmpty) = true then 11 else 0) else 13) else groupE m o := by rw [HR.out, va, vb, vc]; rfl
        have HR2 := Lib.hid hr2
        have HS2 := Lib.hid (HS.out.alloc (.cells #[.string m, .string o] 22))
        have c0 := HS2.out.c0
        have c1 := HS2.out.c1
        clear hv1 hv2 va vb vc hvm hr2 HR
        have hha := fun x w => power_Has m o x w sm
        generalize groupE m o = ge at *
        by_cases hge : ge = 0
        · subst hge
          rw [if_pos rfl] at HR2
          have HHA := Lib.hid hha
          clear hha
          go_enter Tryz.func24, Tryz.ntmps24
          go_wp2_with (first | (go_at_call 41; (with_reducible refine (HV1.out _ _ (HS.out.sls H1.out)).mono ?_); rintro e w' ⟨rfl, rfl⟩) | (go_at_call 41; (with_reducible refine (HV2.out _ _ (HS.out.sls H2.out)).mono ?_); rintro e w' ⟨rfl, rfl⟩) | (go_at_call 41; (with_reducible refine HV3.out.mono ?_); rintro e w' ⟨rfl, rfl⟩) | (go_at_call 42; (with_reducible refine (HCK.out _).mono ?_); rintro e w1 ⟨rfl, hb1⟩; have HS3 := Lib.hid (HS2.out.next hb1); clear hb1))
          go_loopw [36] (fun v wr => ∃ k : Nat, v = .int .i64 k ∧ k ≤ n1 ∧ (∀ j, j < k → hasG m o (els.getD j ByteArray.empty) = true) ∧ GrAt w w.heap.size m o wr) (fun v _ => n1 - (intOf v).toNat)
          case atStart => exact ⟨0, rfl, Nat.zero_le _, fun j h => absurd h (Nat.not_lt_zero _), HS3.out⟩
          case round =>
            obtain ⟨k, rfl, hk, hall, hgr⟩ := hrel
            have HA := Lib.hid hall
            have HG := Lib.hid hgr
            have d0 := hgr.c0
            have d1 := hgr.c1
            clear hall hgr
            by_cases hlt : k < n1
            · obtain ⟨ad, rfl, hc⟩ := (HG.out.sls H1.out).at_ (k := k) (by rw [HE1.out]; exact hlt)
              obtain ⟨x, hx⟩ : ∃ x, els.getD k ByteArray.empty = x := ⟨_, rfl⟩
              rw [hx] at hc
              have HX := Lib.hid hx
              have hh := HHA.out x
              have HLT := Lib.hid hlt
              clear hx hlt
              cases hb : hasG m o x
              · have HF : Hid (readyS m o els hs = 13) := Lib.hid (by rw [HR2.out, if_neg (by rw [all_not' (k := k) (by rw [HE1.out]; exact HLT.out) (by rw [HX.out]; exact hb)]; simp)])
                rw [hb] at hh
                have HH := Lib.hid hh
                clear hh hb
                go_wp2_with (first | (go_at_call 43; (with_reducible refine (HH.out _).mono ?_); rintro e w2 ⟨rfl, hb2⟩; have HG2 := Lib.hid (HG.out.next hb2); clear hb2))
                go_ret
                exact ⟨ret_int HF.out.symm, HG2.out.below⟩
              · rw [hb] at hh
                have HH := Lib.hid hh
                have HB := Lib.hid hb
                clear hh hb
                go_wp2_with (first | (go_at_call 43; (with_reducible refine (HH.out _).mono ?_); rintro e w2 ⟨rfl, hb2⟩; have HG2 := Lib.hid (HG.out.next hb2); clear hb2))
                go_roundw
                case rel => exact ⟨k + 1, rfl, HLT.out, fun j hj => by
                  by_cases e : j = k
                  · subst e; rw [HX.out]; exact HB.out
                  · exact HA.out j (by omega), HG2.out⟩
                case measure => have := HLT.out; simp only [intOf]; omega
            · obtain rfl : k = n1 := by omega
              rw [if_pos (all_of' (fun j hj => HA.out j (by rw [HE1.out] at hj; exact hj)))] at HR2
              clear hk hlt
              go_wp2_with fail
              go_loopw [47] (fun v wr' => ∃ k : Nat, v = .int .i64 k ∧ k ≤ n2 ∧ (∀ j, j < k → (hs.getD j ByteArray.empty).toList.isEmpty = false) ∧ GrAt w w.heap.size m o wr') (fun v _ => n2 - (intOf v).toNat)
              case atStart => exact ⟨0, rfl, Nat.zero_le _, fun j h => absurd h (Nat.not_lt_zero _), HG.out⟩
              case round =>
                obtain ⟨k, rfl, hk, hall, hgr⟩ := hrel
                have HA2 := Lib.hid hall
                have HG2 := Lib.hid hgr
                clear hall hgr HG HA d0 d1
                by_cases hlt : k < n2
                · obtain ⟨ad, rfl, hc⟩ := (HG2.out.sls H2.out).at_ (k := k) (by rw [HE2.out]; exact hlt)
                  obtain ⟨x, hx⟩ : ∃ x, hs.getD k ByteArray.empty = x := ⟨_, rfl⟩
                  rw [hx] at hc
                  have HX := Lib.hid hx
                  have HLT := Lib.hid hlt
                  clear hx hlt
                  cases hb : x.toList.isEmpty
                  · have HB := Lib.hid hb
                    go_wp2_with fail
                    go_roundw
                    case rel => exact ⟨k + 1, rfl, HLT.out, fun j hj => by
                      by_cases e : j = k
                      · subst e; rw [HX.out]; exact HB.out
                      · exact HA2.out j (by omega), HG2.out⟩
                    case measure => have := HLT.out; simp only [intOf]; omega
                  · have HF : Hid (readyS m o els hs = 11) := Lib.hid (by rw [HR2.out, if_pos (any_at' (k := k) (by rw [HE2.out]; exact HLT.out) (by rw [HX.out]; exact hb))])
                    go_wp2_with fail
                    go_ret
                    exact ⟨ret_int HF.out.symm, HG2.out.below⟩
                · obtain rfl : k = n2 := by omega
                  have HF : Hid (readyS m o els hs = 0) := Lib.hid (by rw [HR2.out, if_neg (by rw [any_none' (fun j hj => HA2.out j (by rw [HE2.out] at hj; exact hj))]; simp)])
                  go_wp2_with fail
                  go_ret
                  exact ⟨ret_int HF.out.symm, HG2.out.below⟩
        · rw [if_neg hge] at HR2
          have hnb : (ge != 0) = true := by rw [bne_iff_ne]; exact hge
          clear hge hha
          go_enter Tryz.func24, Tryz.ntmps24
          go_wp2_with (first | (go_at_call 41; (with_reducible refine (HV1.out _ _ (HS.out.sls H1.out)).mono ?_); rintro e w' ⟨rfl, rfl⟩) | (go_at_call 41; (with_reducible refine (HV2.out _ _ (HS.out.sls H2.out)).mono ?_); rintro e w' ⟨rfl, rfl⟩) | (go_at_call 41; (with_reducible refine HV3.out.mono ?_); rintro e w' ⟨rfl, rfl⟩) | (go_at_call 42; (with_reducible refine (HCK.out _).mono ?_); rintro e w1 ⟨rfl, hb1⟩; have HS3 := Lib.hid (HS2.out.next hb1); clear hb1))
          go_ret
          exact ⟨ret_int HR2.out.symm, HS3.out.below⟩
theorem twiceB_snoc (l : List ByteArray) (s : ByteArray) : twiceB (l ++ [s]) = (twiceB l || l.any (fun x => x.toList == s.toList)) := by
  induction l with
  | nil => rfl
  | cons u l ih =>
    simp only [List.cons_append, twiceB, List.any_append, List.any_cons, List.any_nil, Bool.or_false, ih]
    have e : (s.toList == u.toList) = (u.toList == s.toList) := Bool.beq_comm
    rw [e]
    cases l.any (fun x => x.toList == u.toList) <;> cases (u.toList == s.toList) <;> cases twiceB l <;> rfl
theorem twiceB_append (a b : List ByteArray) (h : twiceB a = true) : twiceB (a ++ b) = true := by
  induction a with
  | nil => simp [twiceB] at h
  | cons u a ih =>
    simp only [List.cons_append, twiceB, List.any_append, Bool.or_eq_true] at h ⊢
    rcases h with h | h
    · exact .inl (.inl h)
    · exact .inr (ih h)
theorem take_snoc' (ls : List ByteArray) {k : Nat} (h : k < ls.length) : ls.take (k + 1) = ls.take k ++ [ls.getD k ByteArray.empty] := by
  rw [List.take_succ_eq_append_getElem h, sgetD_lt h]
theorem SetMap.snoc {w : World} {b n : Nat} {l : List ByteArray} {s : ByteArray} (h : SetMap w b n (s :: l)) : SetMap w b n (l ++ [s]) := by
  obtain ⟨D, h1, h2, h3⟩ := h
  refine ⟨D, h1, h2, fun t => ?_⟩
  rw [h3 t, List.any_cons, List.any_append, List.any_cons, List.any_nil, Bool.or_false, Bool.or_comm]
theorem all_at {ls : List ByteArray} {p : ByteArray → Bool} {k : Nat} (h : ls.all p = true) (hk : k < ls.length) : p (ls.getD k ByteArray.empty) = true := by
  rw [sgetD_lt hk]; exact List.all_eq_true.1 h _ (List.getElem_mem hk)
theorem valid_size' {s : ByteArray} (h : valid s = true) : s.size ≤ 1000 := by
  unfold valid at h
  simp only [Bool.and_eq_true, decide_eq_true_eq] at h
  omega
/-- What set returns: the error 8 if some member occurs twice, else the set. -/
def SetPost (w : World) (ls : List ByteArray) (e : Ending) (w' : World) : Prop :=
  Below w.heap.size w w' ∧ ((twiceB ls = true ∧ e = .returned (.tuple #[.map none, .int .i64 8])) ∨ (twiceB ls = false ∧ ∃ b, e = .returned (.tuple #[.map (some b), .int .i64 0]) ∧ w.heap.size ≤ b ∧ SetMap w' b ls.length ls))
theorem acc_set (ls : List ByteArray) (A : Option Addr) (n c : Nat) (w : World) (hn : ls.length = n) (hm : n ≤ 1000) (h : SLs w w.heap.size A ls) (hv : ls.all valid = true) :
    Calls Tryz.prog 25 #[.slice A n c] w (SetPost w ls) := by
  have HN := Lib.hid hn
  have HS := Lib.hid h
  have HV := Lib.hid hv
  have hmm := @run_makeMap Tryz.prog
  clear hn h hv
  go_enter Tryz.func25, Tryz.ntmps25
  go_wp2
  obtain ⟨G, hG⟩ : ∃ G, w.heap.size = G := ⟨_, rfl⟩
  have HG := Lib.hid hG
  have hs0 : SetMap (w.alloc (.map #[] 0)) G 0 [] := by rw [← hG]; exact SetMap.made w
  have hb0 : Below G w (w.alloc (.map #[] 0)) := (Below.refl _ _).alloc (by rw [hG]; exact Nat.le_refl _) _
  rw [hG] at HS ⊢
  have HS0 := Lib.hid hs0
  have HB0 := Lib.hid hb0
  clear hG hs0 hb0 hmm
  go_loopw [10] (fun v wr => ∃ k : Nat, v = .int .i64 k ∧ k ≤ n ∧ twiceB (ls.take k) = false ∧ SetMap wr G k (ls.take k) ∧ Below G w wr) (fun v _ => n - (intOf v).toNat)
  case atStart => exact ⟨0, rfl, Nat.zero_le _, by rw [List.take_zero]; rfl, by rw [List.take_zero]; exact HS0.out, HB0.out⟩
  case round =>
    obtain ⟨k, rfl, hk, htw, hset, hbel⟩ := hrel
    have HTW := Lib.hid htw
    have HSET := Lib.hid hset
    have HBEL := Lib.hid hbel
    clear htw hset hbel
    by_cases hlt : k < n
    · obtain ⟨ad, rfl, hc⟩ := (HS.out.below HBEL.out).at_ (k := k) (by rw [HN.out]; exact hlt)
      have hvs := all_at HV.out (k := k) (by rw [HN.out]; exact hlt)
      have htk := take_snoc' ls (k := k) (by rw [HN.out]; exact hlt)
      have htl : ls = ls.take (k + 1) ++ ls.drop (k + 1) := (List.take_append_drop _ _).symm
      obtain ⟨x, hx⟩ : ∃ x, ls.getD k ByteArray.empty = x := ⟨_, rfl⟩
      rw [hx] at hc hvs htk
      have HSZ := Lib.hid (valid_size' hvs)
      have HTK := Lib.hid htk
      have HTL := Lib.hid htl
      have HLT := Lib.hid hlt
      clear hx hlt htk hvs htl
      cases hb : (ls.take k).any (fun y => y.toList == x.toList)
      · have HB := Lib.hid hb
        go_wp2_with (first | (at_lookup; refine wpList_lookup_set _ rfl _ _ _ rfl Tryz.underlying69 G k _ rfl HSET.out x rfl HSZ.out ?_; rw [hb]) | (at_mapUpdate; refine wpList_put_set _ rfl _ _ _ _ rfl Tryz.underlying69 G k _ rfl HSET.out (by omega) x rfl rfl HSZ.out ?_; intro w2 hset2 hb2 hz2))
        go_roundw
        case rel => exact ⟨k + 1, rfl, HLT.out, by rw [HTK.out, twiceB_snoc, HTW.out, HB.out]; rfl, by rw [HTK.out]; exact hset2.snoc, HBEL.out.trans hb2⟩
        case measure => have := HLT.out; simp only [intOf]; omega
      · have HF : Hid (twiceB ls = true) := Lib.hid (by rw [HTL.out]; refine twiceB_append _ _ ?_; rw [HTK.out, twiceB_snoc, hb, Bool.or_true])
        have HB := Lib.hid hb
        clear hb
        go_wp2_with (first | (at_lookup; refine wpList_lookup_set _ rfl _ _ _ rfl Tryz.underlying69 G k _ rfl HSET.out x rfl HSZ.out ?_; rw [HB.out]))
        go_ret2
        exact ⟨by rw [HG.out]; exact HBEL.out, .inl ⟨HF.out, rfl⟩⟩
    · obtain rfl : k = n := by omega
      have HT : Hid (ls.take k = ls) := Lib.hid (List.take_of_length_le (by rw [HN.out]; exact Nat.le_refl _))
      go_wp2_with fail
      go_ret2
      have h1 := HTW.out
      have h2 := HSET.out
      rw [HT.out] at h1 h2
      exact ⟨by rw [HG.out]; exact HBEL.out, .inr ⟨h1, G, rfl, by rw [HG.out]; exact Nat.le_refl _, by rw [HN.out]; exact h2⟩⟩

end Go.Proofs.YtlppcnjaacbhpaaGreatDoor
