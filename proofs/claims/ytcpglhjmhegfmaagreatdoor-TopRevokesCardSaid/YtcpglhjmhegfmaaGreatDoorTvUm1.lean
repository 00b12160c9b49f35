/- Words for memory, copied from the kit's page extra-words: a slice that reads as a list; append onto a row of the call's own. Then the same for strings. The walks of package accumulator: lists of numbers, sets, powers. The walks of package accumulator: powers, Value, Witness, Add, Check. The walks of package accumulator: Add, Check. The walks of package accumulator: Witness. -/
import Derived.Test.YtcpglhjmhegfmaaGreatDoorTvU3
import Derived.Test.YtcpglhjmhegfmaaGreatDoorTvBR
import Derived.Test.YtcpglhjmhegfmaaGreatDoorTvU4
import Derived.Below
import Derived.Laws.OwnMore
import Derived.Deep.AppendLies
import Derived.Deep.Draws
import Derived.Maps.AppendAt
import Derived.RegionTactic
import Derived.OwnWalk
namespace Go.Proofs.YtcpglhjmhegfmaaGreatDoor
open Go.RowKit
set_option maxRecDepth 100000
set_option linter.unusedVariables false
end Go.Proofs.YtcpglhjmhegfmaaGreatDoor
namespace Go.Proofs.YtcpglhjmhegfmaaGreatDoor
open Go.RowKit
set_option maxRecDepth 100000
set_option linter.unusedVariables false
set_option maxHeartbeats 1000000
theorem acc_valid (ls : List ByteArray) (A : Option Addr) (n c b : Nat) (w : World) (hn : ls.length = n) (hm : n ≤ 1000) (h : SLs w b A ls) :
    Calls Tryz.prog 28 #[.slice A n c] w fun e w' => e = .returned (.bool (ls.all valid)) ∧ w = w' := by
  have HN := Lib.hid hn
  have HS := Lib.hid h
  clear hn h
  go_enter Tryz.func28, Tryz.ntmps28
  go_wp2
  go_loop [7] (fun c => ∃ k : Nat, k ≤ n ∧ c = .int .i64 k ∧ ∀ j, j < k → valid (ls.getD j ByteArray.empty) = true) (fun c => n - (intOf c).toNat)
  case atStart => exact ⟨0, by omega, rfl, fun j h => absurd h (by omega)⟩
  case round =>
    obtain ⟨k, hk, rfl, hall⟩ := hrel
    have HA := Lib.hid hall
    clear hall
    by_cases hlt : k < n
    · obtain ⟨ad, rfl, hc⟩ := HS.out.at_ (k := k) (by rw [HN.out]; exact hlt)
      obtain ⟨s, hs⟩ : ∃ s, ls.getD k ByteArray.empty = s := ⟨_, rfl⟩
      rw [hs] at hc
      have HSS := Lib.hid hs
      clear hs
      cases hv : valid s
      · have HF : Hid (ls.all valid = false) := Lib.hid (all_not' (k := k) (by rw [HN.out]; exact hlt) (by rw [HSS.out]; exact hv))
        go_wp2_with (go_at_call 13; refine (natural_Valid _ _).mono ?_; rintro e w' ⟨rfl, rfl⟩)
        go_ret
        exact ⟨ret_bool HF.out.symm, rfl⟩
      · have HV := Lib.hid hv
        clear hv
        have hck := natural_Valid s
        rw [HV.out] at hck
        have HCK := Lib.hid hck
        clear hck
        go_wp2_with (go_at_call 13; refine (HCK.out _).mono ?_; rintro e w' ⟨rfl, rfl⟩)
        go_round
        case rel => exact ⟨k + 1, by omega, by go_num, fun j hj => by
          by_cases e : j = k
          · subst e; rw [HSS.out]; exact HV.out
          · exact HA.out j (by omega)⟩
        case measure => simp [intOf]; omega
    · obtain rfl : k = n := by omega
      have HF : Hid (ls.all valid = true) := Lib.hid (all_of' (fun j hj => HA.out j (by rw [HN.out] at hj; exact hj)))
      go_wp2
      go_ret
      exact ⟨ret_bool HF.out.symm, rfl⟩
theorem any_at' {ls : List ByteArray} {p : ByteArray → Bool} {k : Nat} (hk : k < ls.length) (h : p (ls.getD k ByteArray.empty) = true) : ls.any p = true := by
  rw [List.any_eq_true]; exact ⟨ls[k], List.getElem_mem hk, by rw [sgetD_lt hk] at h; exact h⟩
theorem any_none' {ls : List ByteArray} {p : ByteArray → Bool} (h : ∀ j, j < ls.length → p (ls.getD j ByteArray.empty) = false) : ls.any p = false := by
  rw [List.any_eq_false]
  intro x hx
  obtain ⟨i, hi, rfl⟩ := List.getElem_of_mem hx
  have := h i hi
  rw [sgetD_lt hi] at this
  simp [this]
theorem GrAt.sls {w wx : World} {g : Nat} {m o : ByteArray} {A : Option Addr} {ls : List ByteArray} (h : GrAt w g m o wx) (hs : SLs w w.heap.size A ls) : SLs wx w.heap.size A ls := hs.below h.below
theorem acc_ready (m o : ByteArray) (els hs : List ByteArray) (A1 A2 : Option Addr) (n1 n2 c1 c2 : Nat) (w : World) (sm : m.size ≤ 8) (e1 : els.length = n1) (e2 : hs.length = n2) (b1 : n1 ≤ 1000) (b2 : n2 ≤ 1000)
    (h1 : SLs w w.heap.size A1 els) (h2 : SLs w w.heap.size A2 hs) :
    Calls Tryz.prog 17 #[.agg #[.string m, .string o], .slice A1 n1 c1, .slice A2 n2 c2] w fun e w' => e = .returned (.int .i64 (readyS m o els hs)) ∧ Below w.heap.size w w' := by
  have hr : readyS m o els hs = if (els.all valid && (hs.all valid && (valid m && valid o))) = true then
    if groupE m o = 0 then (if els.all (hasG m o) = true then (if hs.any (fun u => u.toList.isEmpty) = true then 11 else 0) else 13) else groupE m o else 3 := rfl
  have HR := Lib.hid hr
  have HE1 := Lib.hid e1
  have HE2 := Lib.hid e2
  have H1 := Lib.hid h1
  have H2 := Lib.hid h2
  have HS := Lib.hid (GrAt.box w m o 24)
  have hv1 := fun w b h => acc_valid els A1 n1 c1 b w e1 b1 h
  have hv2 := fun w b h => acc_valid hs A2 n2 c2 b w e2 b2 h
  have hrow : SLs ((w.alloc (.cells #[.string m, .string o] 24)).alloc (.cells #[.string m, .string o] 22)) (w.heap.size + 1 + 1) (some ⟨w.heap.size + 1, 0, none⟩) [m, o] := by
    have := SRow.new (w.alloc (.cells #[.string m, .string o] 24)) 22 [m, o]
    simp only [World.size_alloc] at this
    exact SLs.of_row this (by omega)
  have HV3 := Lib.hid (acc_valid [m, o] (some ⟨w.heap.size + 1, 0, none⟩) 2 2 _ _ rfl (by decide) hrow)
  have HCK := Lib.hid (fun w => power_Check m o w sm)
  clear hr e1 e2 h1 h2 hrow
  cases va : els.all valid
  · rw [va] at hv1
    have HV1 := Lib.hid hv1
    have HF : Hid (readyS m o els hs = 3) := Lib.hid (by rw [HR.out, va]; rfl)
    clear hv1 hv2 va
    go_enter Tryz.func17, Tryz.ntmps17
    go_wp2_with (first | (go_at_call 28; (with_reducible refine (HV1.out _ _ (HS.out.sls H1.out)).mono ?_); rintro e w' ⟨rfl, rfl⟩))
    go_ret
    exact ⟨ret_int HF.out.symm, HS.out.below⟩
  · cases vb : hs.all valid
    · rw [va] at hv1
      rw [vb] at hv2
      have HV1 := Lib.hid hv1
      have HV2 := Lib.hid hv2
      have HF : Hid (readyS m o els hs = 3) := Lib.hid (by rw [HR.out, va, vb]; rfl)
      clear hv1 hv2 va vb
      go_enter Tryz.func17, Tryz.ntmps17
      go_wp2_with (first | (go_at_call 28; (with_reducible refine (HV1.out _ _ (HS.out.sls H1.out)).mono ?_); rintro e w' ⟨rfl, rfl⟩) | (go_at_call 28; (with_reducible refine (HV2.out _ _ (HS.out.sls H2.out)).mono ?_); rintro e w' ⟨rfl, rfl⟩))
      go_ret
      exact ⟨ret_int HF.out.symm, HS.out.below⟩
    · rw [va] at hv1
      rw [vb] at hv2
      have HV1 := Lib.hid hv1
      have HV2 := Lib.hid hv2
      cases vc : (valid m && valid o)
      · have HF : Hid (readyS m o els hs = 3) := Lib.hid (by rw [HR.out, va, vb, vc]; rfl)
        have hvm : ([m, o].all valid) = false := by simp only [List.all_cons, List.all_nil, Bool.and_true]; exact vc
        rw [hvm] at HV3
        clear hv1 hv2 va vb vc hvm
        go_enter Tryz.func17, Tryz.ntmps17
        go_wp2_with (first | (go_at_call 28; (with_reducible refine (HV1.out _ _ (HS.out.sls H1.out)).mono ?_); rintro e w' ⟨rfl, rfl⟩) | (go_at_call 28; (with_reducible refine (HV2.out _ _ (HS.out.sls H2.out)).mono ?_); rintro e w' ⟨rfl, rfl⟩) | (go_at_call 28; (with_reducible refine HV3.out.mono ?_); rintro e w' ⟨rfl, rfl⟩))
        go_ret
        exact ⟨ret_int HF.out.symm, (HS.out.alloc _).below⟩
      · have hvm : ([m, o].all valid) = true := by simp only [List.all_cons, List.all_nil, Bool.and_true]; exact vc
        rw [hvm] at HV3
        have hr2 : readyS m o els hs = if groupE m o = 0 then (if els.all (hasG m o) = true then (if hs.any (fun u => u.toList.isEmpty) = true then 11 else 0) else 13) else groupE m o := by rw [HR.out, va, vb, vc]; rfl
        have HR2 := Lib.hid hr2
        have HS2 := Lib.hid (HS.out.alloc (.cells #[.string m, .string o] 22))
        have c0 := HS2.out.c0
        have c1 := HS2.out.c1
        clear hv1 hv2 va vb vc hvm hr2 HR
        have hha := fun x w => power_Has m o x w sm
        generalize groupE m o = ge at *
        by_cases hge : ge = 0
        · subst hge
          rw [if_pos rfl] at HR2
          have HHA := Lib.hid hha
          clear hha
          go_enter Tryz.func17, Tryz.ntmps17
          go_wp2_with (first | (go_at_call 28; (with_reducible refine (HV1.out _ _ (HS.out.sls H1.out)).mono ?_); rintro e w' ⟨rfl, rfl⟩) | (go_at_call 28; (with_reducible refine (HV2.out _ _ (HS.out.sls H2.out)).mono ?_); rintro e w' ⟨rfl, rfl⟩) | (go_at_call 28; (with_reducible refine HV3.out.mono ?_); rintro e w' ⟨rfl, rfl⟩) | (go_at_call 29; (with_reducible refine (HCK.out _).mono ?_); rintro e w1 ⟨rfl, hb1⟩; have HS3 := Lib.hid (HS2.out.next hb1); clear hb1))
          go_loopw [36] (fun v wr => ∃ k : Nat, v = .int .i64 k ∧ k ≤ n1 ∧ (∀ j, j < k → hasG m o (els.getD j ByteArray.empty) = true) ∧ GrAt w w.heap.size m o wr) (fun v _ => n1 - (intOf v).toNat)
          case atStart => exact ⟨0, rfl, Nat.zero_le _, fun j h => absurd h (Nat.not_lt_zero _), HS3.out⟩
          case round =>
            obtain ⟨k, rfl, hk, hall, hgr⟩ := hrel
            have HA := Lib.hid hall
            have HG := Lib.hid hgr
            have d0 := hgr.c0
            have d1 := hgr.c1
            clear hall hgr
            by_cases hlt : k < n1
            · obtain ⟨ad, rfl, hc⟩ := (HG.out.sls H1.out).at_ (k := k) (by rw [HE1.out]; exact hlt)
              obtain ⟨x, hx⟩ : ∃ x, els.getD k ByteArray.empty = x := ⟨_, rfl⟩
              rw [hx] at hc
              have HX := Lib.hid hx
              have hh := HHA.out x
              have HLT := Lib.hid hlt
              clear hx hlt
              cases hb : hasG m o x
              · have HF : Hid (readyS m o els hs = 13) := Lib.hid (by rw [HR2.out, if_neg (by rw [all_not' (k := k) (by rw [HE1.out]; exact HLT.out) (by rw [HX.out]; exact hb)]; simp)])
                rw [hb] at hh
                have HH := Lib.hid hh
                clear hh hb
                go_wp2_with (first | (go_at_call 30; (with_reducible refine (HH.out _).mono ?_); rintro e w2 ⟨rfl, hb2⟩; have HG2 := Lib.hid (HG.out.next hb2); clear hb2))
                go_ret
                exact ⟨ret_int HF.out.symm, HG2.out.below⟩
              · rw [hb] at hh
                have HH := Lib.hid hh
                have HB := Lib.hid hb
                clear hh hb
                go_wp2_with (first | (go_at_call 30; (with_reducible refine (HH.out _).mono ?_); rintro e w2 ⟨rfl, hb2⟩; have HG2 := Lib.hid (HG.out.next hb2); clear hb2))
                go_roundw
                case rel => exact ⟨k + 1, rfl, HLT.out, fun j hj => by
                  by_cases e : j = k
                  · subst e; rw [HX.out]; exact HB.out
                  · exact HA.out j (by omega), HG2.out⟩
                case measure => have := HLT.out; simp only [intOf]; omega
            · obtain rfl : k = n1 := by omega
              rw [if_pos (all_of' (fun j hj => HA.out j (by rw [HE1.out] at hj; exact hj)))] at HR2
              clear hk hlt
              go_wp2_with fail
              go_loopw [47] (fun v wr' => ∃ k : Nat, v = .int .i64 k ∧ k ≤ n2 ∧ (∀ j, j < k → (hs.getD j ByteArray.empty).toList.isEmpty = false) ∧ GrAt w w.heap.size m o wr') (fun v _ => n2 - (intOf v).toNat)
              case atStart => exact ⟨0, rfl, Nat.zero_le _, fun j h => absurd h (Nat.not_lt_zero _), HG.out⟩
              case round =>
                obtain ⟨k, rfl, hk, hall, hgr⟩ := hrel
                have HA2 := Lib.hid hall
                have HG2 := Lib.hid hgr
                clear hall hgr HG HA d0 d1
                by_cases hlt : k < n2
                · obtain ⟨ad, rfl, hc⟩ := (HG2.out.sls H2.out).at_ (k := k) (by rw [HE2.out]; exact hlt)
                  obtain ⟨x, hx⟩ : ∃ x, hs.getD k ByteArray.empty = x := ⟨_, rfl⟩
                  rw [hx] at hc
                  have HX := Lib.hid hx
                  have HLT := Lib.hid hlt
                  clear hx hlt
                  cases hb : x.toList.isEmpty
                  · have HB := Lib.hid hb
                    go_wp2_with fail
                    go_roundw
                    case rel => exact ⟨k + 1, rfl, HLT.out, fun j hj => by
                      by_cases e : j = k
                      · subst e; rw [HX.out]; exact HB.out
                      · exact HA2.out j (by omega), HG2.out⟩
                    case measure => have := HLT.out; simp only [intOf]; omega
                  · have HF : Hid (readyS m o els hs = 11) := Lib.hid (by rw [HR2.out, if_pos (any_at' (k := k) (by rw [HE2.out]; exact HLT.out) (by rw [HX.out]; exact hb))])
                    go_wp2_with fail
                    go_ret
                    exact ⟨ret_int HF.out.symm, HG2.out.below⟩
                · obtain rfl : k = n2 := by omega
                  have HF : Hid (readyS m o els hs = 0) := Lib.hid (by rw [HR2.out, if_neg (by rw [any_none' (fun j hj => HA2.out j (by rw [HE2.out] at hj; exact hj))]; simp)])
                  go_wp2_with fail
                  go_ret
                  exact ⟨ret_int HF.out.symm, HG2.out.below⟩
        · rw [if_neg hge] at HR2
          have hnb : (ge != 0) = true := by rw [bne_iff_ne]; exact hge
          clear hge hha
          go_enter Tryz.func17, Tryz.ntmps17
          go_wp2_with (first | (go_at_call 28; (with_reducible refine (HV1.out _ _ (HS.out.sls H1.out)).mono ?_); rintro e w' ⟨rfl, rfl⟩) | (go_at_call 28; (with_reducible refine (HV2.out _ _ (HS.out.sls H2.out)).mono ?_); rintro e w' ⟨rfl, rfl⟩) | (go_at_call 28; (with_reducible refine HV3.out.mono ?_); rintro e w' ⟨rfl, rfl⟩) | (go_at_call 29; (with_reducible refine (HCK.out _).mono ?_); rintro e w1 ⟨rfl, hb1⟩; have HS3 := Lib.hid (HS2.out.next hb1); clear hb1))
          go_ret
          exact ⟨ret_int HR2.out.symm, HS3.out.below⟩
theorem twiceB_snoc (l : List ByteArray) (s : ByteArray) : twiceB (l ++ [s]) = (twiceB l || l.any (fun x => x.toList == s.toList)) := by
  induction l with
  | nil => rfl
  | cons u l ih =>
    simp only [List.cons_append, twiceB, List.any_append, List.any_cons, List.any_nil, Bool.or_false, ih]
    have e : (s.toList == u.toList) = (u.toList == s.toList) := Bool.beq_comm
    rw [e]
    cases l.any (fun x => x.toList == u.toList) <;> cases (u.toList == s.toList) <;> cases twiceB l <;> rfl
theorem twiceB_append (a b : List ByteArray) (h : twiceB a = true) : twiceB (a ++ b) = true := by
  induction a with
  | nil => simp [twiceB] at h
  | cons u a ih =>
    simp only [List.cons_append, twiceB, List.any_append, Bool.or_eq_true] at h ⊢
    rcases h with h | h
    · exact .inl (.inl h)
    · exact .inr (ih h)
theorem take_snoc' (ls : List ByteArray) {k : Nat} (h : k < ls.length) : ls.take (k + 1) = ls.take k ++ [ls.getD k ByteArray.empty] := by
  rw [List.take_succ_eq_append_getElem h, sgetD_lt h]
theorem SetMap.snoc {w : World} {b n : Nat} {l : List ByteArray} {s : ByteArray} (h : SetMap w b n (s :: l)) : SetMap w b n (l ++ [s]) := by
  obtain ⟨D, h1, h2, h3⟩ := h
  refine ⟨D, h1, h2, fun t => ?_⟩
  rw [h3 t, List.any_cons, List.any_append, List.any_cons, List.any_nil, Bool.or_false, Bool.or_comm]
theorem all_atU {ls : List ByteArray} {p : ByteArray → Bool} {k : Nat} (h : ls.all p = true) (hk : k < ls.length) : p (ls.getD k ByteArray.empty) = true := by
  rw [sgetD_lt hk]; exact List.all_eq_true.1 h _ (List.getElem_mem hk)
theorem valid_size' {s : ByteArray} (h : valid s = true) : s.size ≤ 1000 := by
  unfold valid at h
  simp only [Bool.and_eq_true, decide_eq_true_eq] at h
  omega
/-- What set returns: the error 8 if some member occurs twice, else the set. -/
def SetPost (w : World) (ls : List ByteArray) (e : Ending) (w' : World) : Prop :=
  Below w.heap.size w w' ∧ ((twiceB ls = true ∧ e = .returned (.tuple #[.map none, .int .i64 8])) ∨ (twiceB ls = false ∧ ∃ b, e = .returned (.tuple #[.map (some b), .int .i64 0]) ∧ w.heap.size ≤ b ∧ SetMap w' b ls.length ls))
theorem acc_set (ls : List ByteArray) (A : Option Addr) (n c : Nat) (w : World) (hn : ls.length = n) (hm : n ≤ 1000) (h : SLs w w.heap.size A ls) (hv : ls.all valid = true) :
    Calls Tryz.prog 18 #[.slice A n c] w (SetPost w ls) := by
  have HN := Lib.hid hn
  have HS := Lib.hid h
  have HV := Lib.hid hv
  have hmm := @run_makeMap Tryz.prog
  clear hn h hv
  go_enter Tryz.func18, Tryz.ntmps18
  go_wp2
  obtain ⟨G, hG⟩ : ∃ G, w.heap.size = G := ⟨_, rfl⟩
  have HG := Lib.hid hG
  have hs0 : SetMap (w.alloc (.map #[] 0)) G 0 [] := by rw [← hG]; exact SetMap.made w
  have hb0 : Below G w (w.alloc (.map #[] 0)) := (Below.refl _ _).alloc (by rw [hG]; exact Nat.le_refl _) _
  rw [hG] at HS ⊢
  have HS0 := Lib.hid hs0
  have HB0 := Lib.hid hb0
  clear hG hs0 hb0 hmm
  go_loopw [10] (fun v wr => ∃ k : Nat, v = .int .i64 k ∧ k ≤ n ∧ twiceB (ls.take k) = false ∧ SetMap wr G k (ls.take k) ∧ Below G w wr) (fun v _ => n - (intOf v).toNat)
  case atStart => exact ⟨0, rfl, Nat.zero_le _, by rw [List.take_zero]; rfl, by rw [List.take_zero]; exact HS0.out, HB0.out⟩
  case round =>
    obtain ⟨k, rfl, hk, htw, hset, hbel⟩ := hrel
    have HTW := Lib.hid htw
    have HSET := Lib.hid hset
    have HBEL := Lib.hid hbel
    clear htw hset hbel
    by_cases hlt : k < n
    · obtain ⟨ad, rfl, hc⟩ := (HS.out.below HBEL.out).at_ (k := k) (by rw [HN.out]; exact hlt)
      have hvs := all_atU HV.out (k := k) (by rw [HN.out]; exact hlt)
      have htk := take_snoc' ls (k := k) (by rw [HN.out]; exact hlt)
      have htl : ls = ls.take (k + 1) ++ ls.drop (k + 1) := (List.take_append_drop _ _).symm
      obtain ⟨x, hx⟩ : ∃ x, ls.getD k ByteArray.empty = x := ⟨_, rfl⟩
      rw [hx] at hc hvs htk
      have HSZ := Lib.hid (valid_size' hvs)
      have HTK := Lib.hid htk
      have HTL := Lib.hid htl
      have HLT := Lib.hid hlt
      clear hx hlt htk hvs htl
      cases hb : (ls.take k).any (fun y => y.toList == x.toList)
      · have HB := Lib.hid hb
        go_wp2_with (first | (at_lookup; refine wpList_lookup_set _ rfl _ _ _ rfl Tryz.underlying58 G k _ rfl HSET.out x rfl HSZ.out ?_; rw [hb]) | (at_mapUpdate; refine wpList_put_set _ rfl _ _ _ _ rfl Tryz.underlying58 G k _ rfl HSET.out (by omega) x rfl rfl HSZ.out ?_; intro w2 hset2 hb2 hz2))
        go_roundw
        case rel => exact ⟨k + 1, rfl, HLT.out, by rw [HTK.out, twiceB_snoc, HTW.out, HB.out]; rfl, by rw [HTK.out]; exact hset2.snoc, HBEL.out.trans hb2⟩
        case measure => have := HLT.out; simp only [intOf]; omega
      · have HF : Hid (twiceB ls = true) := Lib.hid (by rw [HTL.out]; refine twiceB_append _ _ ?_; rw [HTK.out, twiceB_snoc, hb, Bool.or_true])
        have HB := Lib.hid hb
        clear hb
        go_wp2_with (first | (at_lookup; refine wpList_lookup_set _ rfl _ _ _ rfl Tryz.underlying58 G k _ rfl HSET.out x rfl HSZ.out ?_; rw [HB.out]))
        go_ret2
        exact ⟨by rw [HG.out]; exact HBEL.out, .inl ⟨HF.out, rfl⟩⟩
    · obtain rfl : k = n := by omega
      have HT : Hid (ls.take k = ls) := Lib.hid (List.take_of_length_le (by rw [HN.out]; exact Nat.le_refl _))
      go_wp2_with fail
      go_ret2
      have h1 := HTW.out
      have h2 := HSET.out
      rw [HT.out] at h1 h2
      exact ⟨by rw [HG.out]; exact HBEL.out, .inr ⟨h1, G, rfl, by rw [HG.out]; exact Nat.le_refl _, by rw [HN.out]; exact h2⟩⟩
end Go.Proofs.YtcpglhjmhegfmaaGreatDoor
namespace Go.Proofs.YtcpglhjmhegfmaaGreatDoor
open Go.RowKit
set_option maxRecDepth 100000
set_option linter.unusedVariables false
set_option maxHeartbeats 1000000
theorem raiseN_snoc (m : Nat) (l : List ByteArray) (s : ByteArray) (x : Nat) : raiseN m (l ++ [s]) x = raiseN m l x ^ num s % m := by simp [raiseN]
theorem acc_raised (m o : ByteArray) (X : Nat) (ls : List ByteArray) (A : Option Addr) (n c : Nat) (w : World) (sm : m.size ≤ 8) (hg : groupE m o = 0) (hx : hasG m o (B X) = true) (hn : ls.length = n) (hm : n ≤ 1000) (h : SLs w w.heap.size A ls) (hv : ls.all valid = true) :
    Calls Tryz.prog 19 #[.agg #[.string m, .string o], .string (B X), .slice A n c] w fun e w' => e = .returned (.tuple #[.string (B (raiseN (num m) ls X)), .int .i64 0]) ∧ Below w.heap.size w w' := by
  have HN := Lib.hid hn
  have HS := Lib.hid h
  have HV := Lib.hid hv
  have HX := Lib.hid hx
  have HE := Lib.hid (fun y e w (hy : hasG m o (B y) = true) (he : e < lim) => power_Exp m o y e w sm hg hy he)
  have HP := Lib.hid (fun y k (hy : hasG m o (B y) = true) => hasG_pow (k := k) sm hg hy)
  have HB := Lib.hid (GrAt.box w m o 24)
  obtain ⟨M, hM⟩ : ∃ M, num m = M := ⟨_, rfl⟩
  rw [hM] at HE HP ⊢
  clear hn h hv hx hg hM
  go_enter Tryz.func19, Tryz.ntmps19
  go_wp2
  go_loopw [1, 14] (fun vx v wr => ∃ (k y : Nat), vx = .string (B y) ∧ v = .int .i64 k ∧ k ≤ n ∧ y = raiseN M (ls.take k) X ∧ hasG m o (B y) = true ∧ GrAt w w.heap.size m o wr) (fun _ v _ => n - (intOf v).toNat)
  case atStart => exact ⟨0, X, rfl, rfl, Nat.zero_le _, by rw [List.take_zero]; rfl, HX.out, HB.out⟩
  case round =>
    obtain ⟨k, y, rfl, rfl, hk, hy, hhy, hgr⟩ := hrel
    have HY := Lib.hid hy
    have HHY := Lib.hid hhy
    have HG := Lib.hid hgr
    have d0 := hgr.c0
    have d1 := hgr.c1
    clear hy hhy hgr
    by_cases hlt : k < n
    · obtain ⟨ad, rfl, hc⟩ := (HG.out.sls HS.out).at_ (k := k) (by rw [HN.out]; exact hlt)
      have hvs := all_atU HV.out (k := k) (by rw [HN.out]; exact hlt)
      have htk := take_snoc' ls (k := k) (by rw [HN.out]; exact hlt)
      obtain ⟨x, hx⟩ : ∃ x, ls.getD k ByteArray.empty = x := ⟨_, rfl⟩
      rw [hx] at hc hvs htk
      obtain ⟨u, hul, rfl⟩ := (valid_iff x).1 hvs
      have hrs := raiseN_snoc M (ls.take k) (B u) X
      rw [← htk, ← HY.out, num_B] at hrs
      have HRS := Lib.hid hrs
      have HUL := Lib.hid hul
      have HLT := Lib.hid hlt
      have HEX := Lib.hid (fun w => HE.out y u w HHY.out HUL.out)
      have HP2 := Lib.hid (HP.out y u HHY.out)
      clear hx hlt htk hvs hrs hul
      generalize y ^ u % M = Z at *
      go_wp2_with fail
      go_region_held3 (fun w' => w'.cell? ⟨w.heap.size, 0, none⟩ = some (.string m) ∧ w'.cell? ⟨w.heap.size, 1, none⟩ = some (.string o)) (first | go_keep) (first | (go_at_call 32; (with_reducible refine (integer_From u _ HUL).mono ?_); rintro e w2 ⟨rfl, hb2⟩; have n2 : GrAt w w.heap.size m o w2 := by { first | exact HG.out.next hb2 | exact HG.out.drew.next hb2 | exact HG.out.next (((Below.refl _ _).drew).trans hb2) }; have p2 := n2.c0; have q2 := n2.c1; have H2 := Lib.hid n2; clear n2 hb2) | (go_at_call 31; (with_reducible refine (HEX.out _).mono ?_); rintro e w3 ⟨rfl, hb3⟩; have n3 : GrAt w w.heap.size m o w3 := by { first | exact H2.out.next hb3 | exact H2.out.drew.next hb3 | exact H2.out.next (((Below.refl _ _).drew).trans hb3) }; have p3 := n3.c0; have q3 := n3.c1; have H3 := Lib.hid n3; clear n3 hb3))
      all_goals
        go_wp2_with fail
        go_roundw
        case rel => exact ⟨k + 1, Z, rfl, rfl, HLT.out, HRS.out.symm, HP2.out, H3.out⟩
        case measure => have := HLT.out; simp only [intOf]; omega
    · obtain rfl : k = n := by omega
      have HT : Hid (ls.take k = ls) := Lib.hid (List.take_of_length_le (by rw [HN.out]; exact Nat.le_refl _))
      go_wp2_with fail
      go_ret2
      exact ⟨ret_se (by rw [HY.out, HT.out]) rfl, HG.out.below⟩
def SetOk (w : World) (ls : List ByteArray) (e : Ending) (w' : World) : Prop := ∃ b, e = .returned (.tuple #[.map (some b), .int .i64 0]) ∧ w.heap.size ≤ b ∧ SetMap w' b ls.length ls ∧ Below w.heap.size w w'
theorem acc_set_ok (ls : List ByteArray) (A : Option Addr) (n c : Nat) (w : World) (hn : ls.length = n) (hm : n ≤ 1000) (h : SLs w w.heap.size A ls) (hv : ls.all valid = true) (ht : twiceB ls = false) :
    Calls Tryz.prog 18 #[.slice A n c] w (SetOk w ls) :=
  (acc_set ls A n c w hn hm h hv).mono fun e w' h => by
    obtain ⟨hb, ⟨h1, _⟩ | ⟨_, b, he, h2, h3⟩⟩ := h
    · rw [ht] at h1; cases h1
    · exact ⟨b, he, h2, h3, hb⟩
theorem acc_set_twice (ls : List ByteArray) (A : Option Addr) (n c : Nat) (w : World) (hn : ls.length = n) (hm : n ≤ 1000) (h : SLs w w.heap.size A ls) (hv : ls.all valid = true) (ht : twiceB ls = true) :
    Calls Tryz.prog 18 #[.slice A n c] w fun e w' => e = .returned (.tuple #[.map none, .int .i64 8]) ∧ Below w.heap.size w w' :=
  (acc_set ls A n c w hn hm h hv).mono fun e w' h => by
    obtain ⟨hb, ⟨_, he⟩ | ⟨h1, _⟩⟩ := h
    · exact ⟨he, hb⟩
    · rw [ht] at h1; cases h1
/-- The key of an issuer in memory: what matters here. -/
structure KeyAt (w : World) (g : Nat) (m o u : ByteArray) (wx : World) : Prop where
  c1 : wx.cell? ⟨g, 1, none⟩ = some (.string m)
  c2 : wx.cell? ⟨g, 2, none⟩ = some (.string o)
  c6 : wx.cell? ⟨g, 6, none⟩ = some (.string u)
  below : Below w.heap.size w wx
  size : g < wx.heap.size
theorem KeyAt.next {w wx w' : World} {g : Nat} {m o u : ByteArray} (h : KeyAt w g m o u wx) (hb : Below wx.heap.size wx w') : KeyAt w g m o u w' := by
  have hz := h.size
  exact ⟨(hb.cell (p := ⟨g, 1, none⟩) hz).trans h.c1, (hb.cell (p := ⟨g, 2, none⟩) hz).trans h.c2, (hb.cell (p := ⟨g, 6, none⟩) hz).trans h.c6, below2 h.below hb, by have := hb.size; omega⟩
theorem KeyAt.alloc {w wx : World} {g : Nat} {m o u : ByteArray} (h : KeyAt w g m o u wx) (ob : Obj) : KeyAt w g m o u (wx.alloc ob) := h.next ((Below.refl _ _).alloc (Nat.le_refl _) _)
theorem KeyAt.drew {w wx : World} {g : Nat} {m o u : ByteArray} (h : KeyAt w g m o u wx) : KeyAt w g m o u wx.drew := h.next ((Below.refl _ _).drew)
theorem KeyAt.box (w : World) (kn z s r h : Value) (m o u : ByteArray) (T : TypeId) : KeyAt w w.heap.size m o u (w.alloc (.cells #[kn, .string m, .string o, z, s, r, .string u, h] T)) :=
  ⟨by simp [go_sem], by simp [go_sem], by simp [go_sem], (Below.refl _ _).alloc (Nat.le_refl _) _, by simp⟩
theorem KeyAt.sls {w wx : World} {g : Nat} {m o u : ByteArray} {A : Option Addr} {ls : List ByteArray} (h : KeyAt w g m o u wx) (hs : SLs w w.heap.size A ls) : SLs wx w.heap.size A ls := hs.below h.below
theorem readyS_ok {m o : ByteArray} {els hs : List ByteArray} (h : readyS m o els hs = 0) : els.all valid = true ∧ hs.all valid = true ∧ groupE m o = 0 ∧ els.all (hasG m o) = true ∧ hs.any (fun u => u.toList.isEmpty) = false := by
  unfold readyS at h
  split at h
  · rename_i hv
    simp only [Bool.and_eq_true] at hv
    split at h
    · rename_i hg
      split at h
      · rename_i ha
        split at h
        · cases h
        · rename_i hn
          exact ⟨hv.1, hv.2.1, hg, ha, by simpa using hn⟩
      · cases h
    · rename_i hg; exact absurd h hg
  · cases h
theorem acc_Value (kn z s r h : Value) (m o u : ByteArray) (ls : List ByteArray) (A : Option Addr) (n c : Nat) (w : World) (sm : m.size ≤ 8) (hn : ls.length = n) (hm : n ≤ 1000) (hs : SLs w w.heap.size A ls) :
    Calls Tryz.prog 8 #[.agg #[kn, .string m, .string o, z, s, r, .string u, h], .slice A n c] w fun e w' => e = .returned (.tuple #[.string (valueS m o u ls).1, .int .i64 (valueS m o u ls).2]) ∧ Below w.heap.size w w' := by
  have hr : valueS m o u ls = if readyS m o [u] ls = 0 then (if twiceB ls = true then (E0, 8) else (B (raiseN (num m) ls (num u)), 0)) else (E0, readyS m o [u] ls) := rfl
  have HR := Lib.hid hr
  have HS := Lib.hid hs
  have HB := Lib.hid (KeyAt.box w kn z s r h m o u 27)
  have HB2 := Lib.hid (HB.out.alloc (.cells #[.string u] 22))
  have hrd := acc_ready m o [u] ls (some ⟨w.heap.size + 1, 0, none⟩) A 1 n 1 c ((w.alloc (.cells #[kn, .string m, .string o, z, s, r, .string u, h] 27)).alloc (.cells #[.string u] 22)) sm rfl hn (by decide) hm
    (by have := SLs.new (w.alloc (.cells #[kn, .string m, .string o, z, s, r, .string u, h] 27)) 22 [u] (w.heap.size + 1 + 1) (by simp); simp only [World.size_alloc] at this ⊢; exact this)
    ((HB2.out.sls hs).more (HB2.out.below.size))
  have hok := fun h0 => readyS_ok (m := m) (o := o) (els := [u]) (hs := ls) h0
  obtain ⟨re, hre⟩ : ∃ re, readyS m o [u] ls = re := ⟨_, rfl⟩
  rw [hre] at HR hrd hok
  have HRD := Lib.hid hrd
  have c1 := HB2.out.c1
  have c2 := HB2.out.c2
  have c6 := HB2.out.c6
  clear hr hrd hs hre
  by_cases h0 : re = 0
  · subst h0
    obtain ⟨_, vl, hg, hx, _⟩ := hok rfl
    simp only [List.all_cons, List.all_nil, Bool.and_true] at hx
    have hvu := (hasG_lt sm hx).1
    have hset1 := fun w hs ht => acc_set_ok ls A n c w hn hm hs vl ht
    have hset2 := fun w hs ht => acc_set_twice ls A n c w hn hm hs vl ht
    have hrz := fun w hs => acc_raised m o (num u) ls A n c w sm hg (by rw [B_num hvu]; exact hx) hn hm hs vl
    rw [B_num hvu] at hrz
    have HSET1 := Lib.hid hset1
    have HSET2 := Lib.hid hset2
    have HRZ := Lib.hid hrz
    rw [if_pos rfl] at HR
    generalize raiseN (num m) ls (num u) = Z at *
    clear hok hset1 hset2 hrz vl hg hx hvu
    cases htw : twiceB ls
    · rw [htw, if_neg (by simp)] at HR
      have HTW := Lib.hid htw
      clear htw
      go_enter Tryz.func8, Tryz.ntmps8
      go_wp2_with (first | (go_at_call 17; (with_reducible refine HRD.out.mono ?_); rintro e w1 ⟨rfl, hb1⟩; have n1 := HB2.out.next hb1; have p1 := n1.c1; have p2 := n1.c2; have p6 := n1.c6; have H1 := Lib.hid n1; clear n1 hb1) | (go_at_call 18; (with_reducible refine (HSET1.out _ ((H1.out.sls HS.out).more H1.out.below.size) HTW.out).mono ?_); rintro e w2 ⟨bm, rfl, _, _, hb2⟩; have n2 := H1.out.next hb2; have q1 := n2.c1; have q2 := n2.c2; have q6 := n2.c6; have H2 := Lib.hid n2; clear n2 hb2) | (go_at_call 19; (with_reducible refine (HRZ.out _ ((H2.out.sls HS.out).more H2.out.below.size)).mono ?_); rintro e w3 ⟨rfl, hb3⟩; have H3 := Lib.hid (H2.out.next hb3); clear hb3))
      go_ret2
      exact ⟨ret_se (by rw [HR.out]) (by rw [HR.out]), H3.out.below⟩
    · rw [htw, if_pos rfl] at HR
      have HTW := Lib.hid htw
      clear htw
      go_enter Tryz.func8, Tryz.ntmps8
      go_wp2_with (first | (go_at_call 17; (with_reducible refine HRD.out.mono ?_); rintro e w1 ⟨rfl, hb1⟩; have n1 := HB2.out.next hb1; have p1 := n1.c1; have p2 := n1.c2; have p6 := n1.c6; have H1 := Lib.hid n1; clear n1 hb1) | (go_at_call 18; (with_reducible refine (HSET2.out _ ((H1.out.sls HS.out).more H1.out.below.size) HTW.out).mono ?_); rintro e w2 ⟨rfl, hb2⟩; have H2 := Lib.hid (H1.out.next hb2); clear hb2))
      go_ret2
      exact ⟨ret_se (by rw [HR.out] <;> rfl) (by rw [HR.out]), H2.out.below⟩
  · rw [if_neg h0] at HR
    have hnb : (re != 0) = true := by rw [bne_iff_ne]; exact h0
    clear h0 hok
    go_enter Tryz.func8, Tryz.ntmps8
    go_wp2_with (first | (go_at_call 17; (with_reducible refine HRD.out.mono ?_); rintro e w1 ⟨rfl, hb1⟩; have H1 := Lib.hid (HB2.out.next hb1); clear hb1))
    go_ret2
    exact ⟨ret_se (by rw [HR.out] <;> rfl) (by rw [HR.out]), H1.out.below⟩
end Go.Proofs.YtcpglhjmhegfmaaGreatDoor
namespace Go.Proofs.YtcpglhjmhegfmaaGreatDoor
open Go.RowKit
set_option maxRecDepth 100000
set_option linter.unusedVariables false
set_option maxHeartbeats 1000000
def addS (m o acc u : ByteArray) : ByteArray × Int := if readyS m o [acc] [u] = 0 then (B (num acc ^ num u % num m), 0) else (E0, readyS m o [acc] [u])
def checkAS (m o acc u v : ByteArray) : Int := if readyS m o [acc, v] [u] = 0 then (if num v ^ num u % num m = num acc then 0 else 20) else readyS m o [acc, v] [u]
theorem raiseN_one (m : Nat) (u : ByteArray) (x : Nat) : raiseN m [u] x = x ^ num u % m := rfl
/-- ready, at rows that were just made. -/
theorem acc_ready_new (m o : ByteArray) (els hs : List ByteArray) (n1 n2 g1 g2 : Nat) (W W2 : World) (T1 T2 : TypeId) (hW : W2 = (W.alloc (.cells (els.map Value.string).toArray T1)).alloc (.cells (hs.map Value.string).toArray T2)) (hg1 : g1 = W.heap.size) (hg2 : g2 = W.heap.size + 1)
    (sm : m.size ≤ 8) (e1 : els.length = n1) (e2 : hs.length = n2) (b1 : n1 ≤ 1000) (b2 : n2 ≤ 1000) :
    Calls Tryz.prog 17 #[.agg #[.string m, .string o], .slice (some ⟨g1, 0, none⟩) n1 n1, .slice (some ⟨g2, 0, none⟩) n2 n2] W2 fun e w' => e = .returned (.int .i64 (readyS m o els hs)) ∧ Below W2.heap.size W2 w' := by
  subst hg1 hg2
  have hz : W2.heap.size = W.heap.size + 1 + 1 := by rw [hW]; simp
  have h1 : SLs W2 (W.heap.size + 1 + 1) (some ⟨W.heap.size, 0, none⟩) els := by
    rw [hW]
    exact ((SLs.new W T1 els (W.heap.size + 1) (by omega)).below (by have := (Below.refl (W.alloc (.cells (els.map Value.string).toArray T1)).heap.size (W.alloc (.cells (els.map Value.string).toArray T1))).alloc (Nat.le_refl _) (.cells (hs.map Value.string).toArray T2); simp only [World.size_alloc] at this; exact this)).more (by omega)
  have h2 : SLs W2 (W.heap.size + 1 + 1) (some ⟨W.heap.size + 1, 0, none⟩) hs := by
    have := SLs.new (W.alloc (.cells (els.map Value.string).toArray T1)) T2 hs (W.heap.size + 1 + 1) (by simp)
    simp only [World.size_alloc] at this
    rw [hW]
    exact this
  exact acc_ready m o els hs (some ⟨W.heap.size, 0, none⟩) (some ⟨W.heap.size + 1, 0, none⟩) n1 n2 n1 n2 W2 sm e1 e2 b1 b2 (by rw [hz]; exact h1) (by rw [hz]; exact h2)
theorem acc_Check (kn z s r h : Value) (m o ku acc u v : ByteArray) (w : World) (sm : m.size ≤ 8) :
    Calls Tryz.prog 9 #[.agg #[kn, .string m, .string o, z, s, r, .string ku, h], .string acc, .string u, .string v] w fun e w' => e = .returned (.int .i64 (checkAS m o acc u v)) ∧ Below w.heap.size w w' := by
  have hr : checkAS m o acc u v = if readyS m o [acc, v] [u] = 0 then (if num v ^ num u % num m = num acc then 0 else 20) else readyS m o [acc, v] [u] := rfl
  have HR := Lib.hid hr
  have HB := Lib.hid (KeyAt.box w kn z s r h m o ku 27)
  have hrd := acc_ready_new m o [acc, v] [u] 2 1 (w.heap.size + 1) (w.heap.size + 1 + 1) (w.alloc (.cells #[kn, .string m, .string o, z, s, r, .string ku, h] 27)) (((w.alloc (.cells #[kn, .string m, .string o, z, s, r, .string ku, h] 27)).alloc (.cells #[.string acc, .string v] 22)).alloc (.cells #[.string u] 22)) 22 22 rfl (by simp) (by simp) sm rfl rfl (by decide) (by decide)
  have HB2 := Lib.hid ((HB.out.alloc (.cells #[.string acc, .string v] 22)).alloc (.cells #[.string u] 22))
  have hok := fun h0 => readyS_ok (m := m) (o := o) (els := [acc, v]) (hs := [u]) h0
  obtain ⟨re, hre⟩ : ∃ re, readyS m o [acc, v] [u] = re := ⟨_, rfl⟩
  rw [hre] at HR hrd hok
  have HRD := Lib.hid hrd
  have c1 := HB2.out.c1
  have c2 := HB2.out.c2
  clear hr hrd hre
  by_cases h0 : re = 0
  · subst h0
    obtain ⟨vels, vl, hg, hx, _⟩ := hok rfl
    simp only [List.all_cons, List.all_nil, Bool.and_true, Bool.and_eq_true] at hx vels
    have hva := vels.1
    have hvv := vels.2
    have hrz := fun (W : World) => acc_raised m o (num v) [u] (some ⟨W.heap.size, 0, none⟩) 1 1 (W.alloc (.cells #[.string u] 22)) sm hg (by rw [B_num hvv]; exact hx.2) rfl (by decide) (SLs.new W 22 [u] _ (by simp)) vl
    rw [B_num hvv] at hrz
    simp only [raiseN_one] at hrz
    have HRZ := Lib.hid hrz
    rw [if_pos rfl] at HR
    have kb := B_beq (num v ^ num u % num m) (num acc)
    rw [B_num hva] at kb
    generalize num v ^ num u % num m = Z at *
    clear hok hrz vl hg hx hva hvv vels
    by_cases hz : Z = num acc
    · rw [decide_eq_true hz] at kb
      rw [if_pos hz] at HR
      have kb2 : ((B Z).toList != acc.toList) = false := by rw [bne, kb]; rfl
      clear hz
      go_enter Tryz.func9, Tryz.ntmps9
      go_wp2_with (first | (go_at_call 17; (with_reducible refine HRD.out.mono ?_); rintro e w1 ⟨rfl, hb1⟩; have n1 := HB2.out.next hb1; have p1 := n1.c1; have p2 := n1.c2; have H1 := Lib.hid n1; clear n1 hb1) | (go_at_call 19; (with_reducible refine (HRZ.out _).mono ?_); rintro e w3 ⟨rfl, hb3⟩; have H3 := Lib.hid ((H1.out.alloc _).next hb3); clear hb3))
      go_ret
      exact ⟨ret_int (by rw [HR.out]), H3.out.below⟩
    · rw [decide_eq_false hz] at kb
      rw [if_neg hz] at HR
      have kb2 : ((B Z).toList != acc.toList) = true := by rw [bne, kb]; rfl
      clear hz
      go_enter Tryz.func9, Tryz.ntmps9
      go_wp2_with (first | (go_at_call 17; (with_reducible refine HRD.out.mono ?_); rintro e w1 ⟨rfl, hb1⟩; have n1 := HB2.out.next hb1; have p1 := n1.c1; have p2 := n1.c2; have H1 := Lib.hid n1; clear n1 hb1) | (go_at_call 19; (with_reducible refine (HRZ.out _).mono ?_); rintro e w3 ⟨rfl, hb3⟩; have H3 := Lib.hid ((H1.out.alloc _).next hb3); clear hb3))
      go_ret
      exact ⟨ret_int (by rw [HR.out]), H3.out.below⟩
  · rw [if_neg h0] at HR
    have hnb : (re != 0) = true := by rw [bne_iff_ne]; exact h0
    clear h0 hok
    go_enter Tryz.func9, Tryz.ntmps9
    go_wp2_with (first | (go_at_call 17; (with_reducible refine HRD.out.mono ?_); rintro e w1 ⟨rfl, hb1⟩; have H1 := Lib.hid (HB2.out.next hb1); clear hb1))
    go_ret
    exact ⟨ret_int (by rw [HR.out]), H1.out.below⟩
end Go.Proofs.YtcpglhjmhegfmaaGreatDoor
namespace Go.Proofs.YtcpglhjmhegfmaaGreatDoor
open Go.RowKit
set_option maxRecDepth 100000
set_option linter.unusedVariables false
set_option maxHeartbeats 1000000
def witnessS (m o u : ByteArray) (ms : List ByteArray) (x : ByteArray) : ByteArray × Int :=
  if readyS m o [u] (x :: ms) = 0 then (if twiceB ms = true then (E0, 8) else if ms.any (fun y => y.toList == x.toList) = true then (B (raiseN (num m) (ms.filter fun y => !(y.toList == x.toList)) (num u)), 0) else (E0, 9)) else (E0, readyS m o [u] (x :: ms))
/-- Before the append: the key, the row of the base, the row of the member. -/
structure WitAt (w : World) (m o u x : ByteArray) (gu gx : Nat) (W : World) : Prop where
  key : KeyAt w w.heap.size m o u W
  own : OwnS W w.heap.size (.slice (some ⟨gx, 0, none⟩) 1 1) 1 [x]
  us : W.cell? ⟨gu, 0, none⟩ = some (.string u)
  ne : gx ≠ gu
  ng : gx ≠ w.heap.size
  lu : gu < W.heap.size
  lx : w.heap.size ≤ gx
theorem WitAt.drew {w W : World} {m o u x : ByteArray} {gu gx : Nat} (h : WitAt w m o u x gu gx W) : WitAt w m o u x gu gx W.drew := ⟨h.key.drew, h.own, h.us, h.ne, h.ng, h.lu, h.lx⟩
/-- Behind the append. -/
structure WitTo (w : World) (m o u x : ByteArray) (ls : List ByteArray) (gu : Nat) (A1 : Option Addr) (w1 : World) : Prop where
  key : KeyAt w w.heap.size m o u w1
  us : SLs w1 w1.heap.size (some ⟨gu, 0, none⟩) [u]
  ms : SLs w1 w1.heap.size A1 (x :: ls)
theorem WitTo.drew {w w1 : World} {m o u x : ByteArray} {ls : List ByteArray} {gu : Nat} {A1 : Option Addr} (h : WitTo w m o u x ls gu A1 w1) : WitTo w m o u x ls gu A1 w1.drew := ⟨h.key.drew, h.us, h.ms⟩
theorem wit_row {n gu gx : Nat} {w W w1 : World} {v1 : Value} {m o u x : ByteArray} {ls : List ByteArray} (hn : ls.length = n) (hat : WitAt w m o u x gu gx W)
    (hown : w1.ownsRow w.heap.size 22 1 v1 (1 + n) ([x].map Value.string ++ ls.map Value.string)) (hg : W.grownBy w1 (Value.slice (some ⟨gx, 0, none⟩) 1 1).ownBlock) :
    ∃ A1 k1, v1 = .slice A1 (1 + n) k1 ∧ WitTo w m o u x ls gu A1 w1 := by
  have hz : w.heap.size ≤ w1.heap.size := Nat.le_trans hat.key.below.size hg.size
  have ho : OwnS w1 w.heap.size v1 (1 + n) (x :: ls) := ⟨by simp [hn]; omega, by simpa using hown⟩
  obtain ⟨A, c, hv, hs⟩ := ho.form hz
  have hlt := hat.key.size
  have hcell : ∀ g k, g < W.heap.size → gx ≠ g → w1.cell? ⟨g, k, none⟩ = W.cell? ⟨g, k, none⟩ := fun g k h1 h2 =>
    World.cell?_of_block (hg.block g h1 (by simp [Value.ownBlock]; omega))
  have hb : Below w.heap.size w w1 := hat.key.below.grown hg hat.key.below.size (fun k hk => by simp [Value.ownBlock] at hk; have := hat.lx; omega)
  refine ⟨A, c, hv, ⟨(hcell _ _ hlt hat.ng).trans hat.key.c1, (hcell _ _ hlt hat.ng).trans hat.key.c2, (hcell _ _ hlt hat.ng).trans hat.key.c6, hb, Nat.lt_of_lt_of_le hlt hg.size⟩, ?_, hs⟩
  refine SLs.of_row ?_ (Nat.lt_of_lt_of_le hat.lu hg.size)
  intro j hj
  have : j = 0 := by simp at hj; omega
  subst this
  exact (hcell _ _ hat.lu hat.ne).trans hat.us
/-- Behind an append that went ahead of the base's row. -/
structure WitMs (w : World) (m o u x : ByteArray) (ls : List ByteArray) (A1 : Option Addr) (w1 : World) : Prop where
  key : KeyAt w w.heap.size m o u w1
  ms : SLs w1 w1.heap.size A1 (x :: ls)
theorem WitMs.drew {w w1 : World} {m o u x : ByteArray} {ls : List ByteArray} {A1 : Option Addr} (h : WitMs w m o u x ls A1 w1) : WitMs w m o u x ls A1 w1.drew := ⟨h.key.drew, h.ms⟩
theorem WitMs.row {w w1 : World} {m o u x : ByteArray} {ls : List ByteArray} {A1 : Option Addr} (h : WitMs w m o u x ls A1 w1) : WitTo w m o u x ls w1.heap.size A1 (w1.alloc (.cells #[.string u] 22)) :=
  ⟨h.key.alloc _, SLs.new w1 22 [u] _ (by simp), (h.ms.below ((Below.refl _ _).alloc (Nat.le_refl _) _)).more (by simp)⟩
theorem wit_row3 {n gx : Nat} {w W w1 : World} {v1 : Value} {m o u x : ByteArray} {ls : List ByteArray} (hn : ls.length = n) (hk : KeyAt w w.heap.size m o u W) (hgx : gx = w.heap.size + 1)
    (hown : w1.ownsRow w.heap.size 22 1 v1 (1 + n) ([x].map Value.string ++ ls.map Value.string)) (hg : W.grownBy w1 (Value.slice (some ⟨gx, 0, none⟩) 1 1).ownBlock) :
    ∃ A1 k1, v1 = .slice A1 (1 + n) k1 ∧ WitMs w m o u x ls A1 w1 := by
  have hz : w.heap.size ≤ w1.heap.size := Nat.le_trans hk.below.size hg.size
  have ho : OwnS w1 w.heap.size v1 (1 + n) (x :: ls) := ⟨by simp [hn]; omega, by simpa using hown⟩
  obtain ⟨A, c, hv, hs⟩ := ho.form hz
  have hlt := hk.size
  have hcell : ∀ g k, g < W.heap.size → gx ≠ g → w1.cell? ⟨g, k, none⟩ = W.cell? ⟨g, k, none⟩ := fun g k h1 h2 =>
    World.cell?_of_block (hg.block g h1 (by simp [Value.ownBlock]; omega))
  have hb : Below w.heap.size w w1 := hk.below.grown hg hk.below.size (fun k hk => by simp [Value.ownBlock] at hk; omega)
  exact ⟨A, c, hv, ⟨(hcell _ _ hlt (by omega)).trans hk.c1, (hcell _ _ hlt (by omega)).trans hk.c2, (hcell _ _ hlt (by omega)).trans hk.c6, hb, Nat.lt_of_lt_of_le hlt hg.size⟩, hs⟩
theorem own_sls {w : World} {base : Nat} {A : Option Addr} {n c : Nat} {ls : List ByteArray} (h : OwnS w base (.slice A n c) n ls) (hz : base ≤ w.heap.size) : SLs w w.heap.size A ls := by
  obtain ⟨A', c', e, hs⟩ := h.form hz
  injection e with e1 _ _
  rw [e1]; exact hs
theorem all_filter {p q : ByteArray → Bool} {ls : List ByteArray} (h : ls.all p = true) : (ls.filter q).all p = true := by
  rw [List.all_eq_true] at h ⊢
  exact fun x hx => h x (List.mem_filter.1 hx).1
theorem wit_step {w wr w5 : World} {m o u y : ByteArray} {l : List ByteArray} {A' : Option Addr} {c' : Nat} {v5 : Value} {ob : Obj} (hk : KeyAt w w.heap.size m o u wr) (hown0 : OwnS (wr.alloc ob) (w.heap.size + 1) (.slice A' l.length c') l.length l)
    (hown : w5.ownsRow (w.heap.size + 1) 22 1 v5 (l.length + 1) (l.map Value.string ++ [y].map Value.string)) (hg : (wr.alloc ob).grownBy w5 (Value.slice A' l.length c').ownBlock) :
    ∃ A5 c5, v5 = .slice A5 (l.length + 1) c5 ∧ OwnS w5 (w.heap.size + 1) (.slice A5 (l.length + 1) c5) (l.length + 1) (l ++ [y]) ∧ KeyAt w w.heap.size m o u w5 := by
  have hz1 : w.heap.size ≤ (wr.alloc ob).heap.size := Nat.le_trans hk.below.size (by simp)
  have hz : w.heap.size + 1 ≤ w5.heap.size := Nat.le_trans (Nat.lt_of_lt_of_le hk.size (by simp)) hg.size
  have ho : OwnS w5 (w.heap.size + 1) v5 (l.length + 1) (l ++ [y]) := ⟨by simp, by simpa using hown⟩
  obtain ⟨A, c, hv, hs⟩ := ho.form hz
  have hlt : w.heap.size < (wr.alloc ob).heap.size := Nat.lt_of_lt_of_le hk.size (by simp)
  have hka := hk.alloc ob
  have hcell : ∀ k, w5.cell? ⟨w.heap.size, k, none⟩ = (wr.alloc ob).cell? ⟨w.heap.size, k, none⟩ := fun k => World.cell?_of_block (hg.block w.heap.size hlt (fun e => by have := (hown0.2.lt _ e.symm).1; omega))
  have hb : Below w.heap.size w w5 := hka.below.grown hg hz1 (fun k hk => by have := (hown0.2.lt k hk).1; omega)
  exact ⟨A, c, hv, hv ▸ ho, ⟨(hcell _).trans hka.c1, (hcell _).trans hka.c2, (hcell _).trans hka.c6, hb, Nat.lt_of_lt_of_le hlt hg.size⟩⟩
theorem acc_Witness (kn z s r h : Value) (m o u x : ByteArray) (ls : List ByteArray) (A : Option Addr) (n c : Nat) (w : World) (sm : m.size ≤ 8) (hn : ls.length = n) (hm : n ≤ 100) (hs : SLs w w.heap.size A ls) :
    Calls Tryz.prog 7 #[.agg #[kn, .string m, .string o, z, s, r, .string u, h], .slice A n c, .string x] w fun e w' => e = .returned (.tuple #[.string (witnessS m o u ls x).1, .int .i64 (witnessS m o u ls x).2]) ∧ Below w.heap.size w w' := by
  have hr : witnessS m o u ls x = if readyS m o [u] (x :: ls) = 0 then (if twiceB ls = true then (E0, 8) else if ls.any (fun y => y.toList == x.toList) = true then (B (raiseN (num m) (ls.filter fun y => !(y.toList == x.toList)) (num u)), 0) else (E0, 9)) else (E0, readyS m o [u] (x :: ls)) := rfl
  obtain ⟨i0, hi0, hz0, hz1, hz2⟩ := info_parts nat_info
  have HR := Lib.hid hr
  have HS := Lib.hid hs
  have HN := Lib.hid hn
  have HB := Lib.hid (KeyAt.box w kn z s r h m o u 27)
  have HB2 := Lib.hid (HB.out.alloc (.cells #[.string u] 22))
  have hwit : ∀ a b : ByteArray, ∀ gu gx : Nat, (gu = w.heap.size + 1 ∧ gx = w.heap.size + 1 + 1 ∧ a = u ∧ b = x) ∨ (gu = w.heap.size + 1 + 1 ∧ gx = w.heap.size + 1 ∧ a = x ∧ b = u) →
      WitAt w m o u x gu gx (((w.alloc (.cells #[kn, .string m, .string o, z, s, r, .string u, h] 27)).alloc (.cells #[.string a] 22)).alloc (.cells #[.string b] 22)) := by
    rintro a b gu gx (⟨rfl, rfl, rfl, rfl⟩ | ⟨rfl, rfl, rfl, rfl⟩)
    · refine ⟨(HB.out.alloc _).alloc _, ?_, by simp [go_sem], by omega, by omega, by simp, by omega⟩
      have := OwnS.lit ((w.alloc (.cells #[kn, .string m, .string o, z, s, r, .string a, h] 27)).alloc (.cells #[.string a] 22)) w.heap.size [b] 1 (by simp; omega) rfl (by decide)
      simp only [World.size_alloc] at this
      exact this
    · refine ⟨(HB.out.alloc _).alloc _, ?_, by simp [go_sem], by omega, by omega, by simp, by omega⟩
      have := (OwnS.lit (w.alloc (.cells #[kn, .string m, .string o, z, s, r, .string b, h] 27)) w.heap.size [a] 1 (by simp) rfl (by decide)).kept (B := 0) ((Below.refl _ _).alloc (Nat.le_refl _) (.cells #[.string b] 22))
      simp only [World.size_alloc] at this
      exact this
  have HW1 := Lib.hid (hwit u x _ _ (.inl ⟨rfl, rfl, rfl, rfl⟩))
  have HW2 := Lib.hid (hwit x u _ _ (.inr ⟨rfl, rfl, rfl, rfl⟩))
  clear hwit
  have HK3 := Lib.hid (HB.out.alloc (.cells #[.string x] 22))
  have hw3 := OwnS.lit (w.alloc (.cells #[kn, .string m, .string o, z, s, r, .string u, h] 27)) w.heap.size [x] 1 (by simp) rfl (by decide)
  simp only [World.size_alloc] at hw3
  have HW3 := Lib.hid hw3
  have HRD3 := Lib.hid (((HK3.out.sls hs).more HK3.out.below.size).reads hn)
  clear hw3
  have hone : ∀ l : List ByteArray, ∀ u ∈ l.map Value.string, u.oneCell' = true := fun l u hu => by
    obtain ⟨y, _, rfl⟩ := List.mem_map.1 hu
    rfl
  have HONE := Lib.hid hone
  have HRD1 := Lib.hid (((HW1.out.key.sls hs).more HW1.out.key.below.size).reads hn)
  have HRD2 := Lib.hid (((HW2.out.key.sls hs).more HW2.out.key.below.size).reads hn)
  have hmax : 1 + n ≤ maxLen := by unfold maxLen; omega
  have HMAX := Lib.hid hmax
  have hrdy := fun gu A' c' W hs1 hs2 => acc_ready m o [u] (x :: ls) (some ⟨gu, 0, none⟩) A' 1 (1 + n) 1 c' W sm rfl (by rw [List.length_cons, hn, Nat.add_comm]) (by decide) (by omega) hs1 hs2
  have hok := fun h0 => readyS_ok (m := m) (o := o) (els := [u]) (hs := x :: ls) h0
  obtain ⟨re, hre⟩ : ∃ re, readyS m o [u] (x :: ls) = re := ⟨_, rfl⟩
  rw [hre] at HR hrdy hok
  have HRDY := Lib.hid hrdy
  have c1 := HB.out.c1
  have c2 := HB.out.c2
  have c6 := HB.out.c6
  have d1 := HB2.out.c1
  have d2 := HB2.out.c2
  have d6 := HB2.out.c6
  clear hr hs hrdy hre hone hmax
  by_cases h0 : re = 0
  · subst h0
    obtain ⟨_, vl, hg, hx, _⟩ := hok rfl
    simp only [List.all_cons, List.all_nil, Bool.and_true, Bool.and_eq_true] at hx vl
    have hvu := (hasG_lt sm hx).1
    have hset1 := fun w hs ht => acc_set_ok ls A n c w hn (by omega) hs vl.2 ht
    have hset2 := fun w hs ht => acc_set_twice ls A n c w hn (by omega) hs vl.2 ht
    have hrz := fun l A' n' c' w hn' hm' hs hv => acc_raised m o (num u) l A' n' c' w sm hg (by rw [B_num hvu]; exact hx) hn' hm' hs hv
    rw [B_num hvu] at hrz
    have HSET1 := Lib.hid hset1
    have HSET2 := Lib.hid hset2
    have HRZ := Lib.hid hrz
    have HVX := Lib.hid (valid_size' vl.1)
    have HVL := Lib.hid vl.2
    rw [if_pos rfl] at HR
    clear hok hset1 hset2 hrz vl hg hx hvu
    cases htw : twiceB ls
    · rw [htw, if_neg (by simp)] at HR
      have HTW := Lib.hid htw
      clear htw
      cases han : ls.any (fun y => y.toList == x.toList)
      · rw [han, if_neg (by simp)] at HR
        have HAN := Lib.hid han
        clear han
        go_enter Tryz.func7, Tryz.ntmps7
        go_wp2_with fail
        go_region_held3 (fun w' => w'.cell? ⟨w.heap.size, 1, none⟩ = some (.string m) ∧ w'.cell? ⟨w.heap.size, 2, none⟩ = some (.string o) ∧ w'.cell? ⟨w.heap.size, 6, none⟩ = some (.string u)) (first | go_keep) (first | (refine step_append_any _ (by rfl) _ _ _ (by rfl) w.heap.size 22 i0 _ 1 16 Tryz.underlying25 hi0 hz0 hz1 hz2 rfl (by omega) (.slice (some ⟨w.heap.size + 1 + 1, 0, none⟩) 1 1) 1 ([x].map Value.string) (by rfl) (by first | exact HW1.out.own.2 | exact HW1.out.drew.own.2) _ A n c (ls.map Value.string) (by rfl) (by first | exact HRD1.out | exact HRD1.out.drew) (HONE.out ls) HMAX.out (by omega) (by simp; omega) ?_; intro v1 w1 hown1 hgrow hat; obtain ⟨A1, k1, rfl, n1⟩ := wit_row HN.out (by first | exact HW1.out | exact HW1.out.drew) hown1 hgrow; have p1 := n1.key.c1; have p2 := n1.key.c2; have p6 := n1.key.c6; have H1 := Lib.hid n1; clear n1 hown1 hgrow hat) | (refine step_append_any _ (by rfl) _ _ _ (by rfl) w.heap.size 22 i0 _ 1 16 Tryz.underlying25 hi0 hz0 hz1 hz2 rfl (by omega) (.slice (some ⟨w.heap.size + 1, 0, none⟩) 1 1) 1 ([x].map Value.string) (by rfl) (by first | exact HW2.out.own.2 | exact HW2.out.drew.own.2) _ A n c (ls.map Value.string) (by rfl) (by first | exact HRD2.out | exact HRD2.out.drew) (HONE.out ls) HMAX.out (by omega) (by simp; omega) ?_; intro v1 w1 hown1 hgrow hat; obtain ⟨A1, k1, rfl, n1⟩ := wit_row HN.out (by first | exact HW2.out | exact HW2.out.drew) hown1 hgrow; have p1 := n1.key.c1; have p2 := n1.key.c2; have p6 := n1.key.c6; have H1 := Lib.hid n1; clear n1 hown1 hgrow hat) | (refine step_append_any _ (by rfl) _ _ _ (by rfl) w.heap.size 22 i0 _ 1 16 Tryz.underlying25 hi0 hz0 hz1 hz2 rfl (by omega) (.slice (some ⟨w.heap.size + 1, 0, none⟩) 1 1) 1 ([x].map Value.string) (by rfl) (by first | exact HW3.out.2 | exact HW3.out.2.drew) _ A n c (ls.map Value.string) (by rfl) (by first | exact HRD3.out | exact HRD3.out.drew) (HONE.out ls) HMAX.out (by omega) (by simp; omega) ?_; intro v1 w1 hown1 hgrow hat; obtain ⟨A1, k1, rfl, n1⟩ := wit_row3 HN.out (by first | exact HK3.out | exact HK3.out.drew) rfl hown1 hgrow; have p1 := n1.key.c1; have p2 := n1.key.c2; have p6 := n1.key.c6; have H1 := Lib.hid n1; clear n1 hown1 hgrow hat) | (go_at_call 17; (first | (with_reducible refine (HRDY.out _ A1 k1 _ H1.out.us H1.out.ms).mono ?_) | (with_reducible refine (HRDY.out _ A1 k1 _ H1.out.drew.us H1.out.drew.ms).mono ?_)); rintro e w2 ⟨rfl, hb2⟩; have n2 : KeyAt w w.heap.size m o u w2 := by { first | exact H1.out.key.next hb2 | exact H1.out.drew.key.next hb2 }; have q1 := n2.c1; have q2 := n2.c2; have q6 := n2.c6; have H2 := Lib.hid n2; clear n2 hb2) | (go_at_call 17; (first | (with_reducible refine (HRDY.out _ A1 k1 _ H1.out.row.us H1.out.row.ms).mono ?_) | (with_reducible refine (HRDY.out _ A1 k1 _ H1.out.drew.row.us H1.out.drew.row.ms).mono ?_) | (with_reducible refine (HRDY.out _ A1 k1 _ H1.out.row.drew.us H1.out.row.drew.ms).mono ?_)); rintro e w2 ⟨rfl, hb2⟩; have n2 : KeyAt w w.heap.size m o u w2 := by { first | exact H1.out.row.key.next hb2 | exact H1.out.drew.row.key.next hb2 | exact H1.out.row.drew.key.next hb2 }; have q1 := n2.c1; have q2 := n2.c2; have q6 := n2.c6; have H2 := Lib.hid n2; clear n2 hb2))
        all_goals
          go_wp2_with (first | (go_at_call 18; (with_reducible refine (HSET1.out _ ((H2.out.sls HS.out).more H2.out.below.size) HTW.out).mono ?_); rintro e w3 ⟨bm, rfl, hbm, hsm, hb3⟩; have n3 := H2.out.next hb3; have r1 := n3.c1; have r2 := n3.c2; have r6 := n3.c6; have H3 := Lib.hid n3; have HSM := Lib.hid hsm; clear n3 hb3 hbm hsm) | (at_lookup; refine wpList_lookup_set _ rfl _ _ _ rfl Tryz.underlying58 bm _ _ rfl HSM.out x rfl HVX.out ?_; rw [HAN.out]))
          go_ret2
          exact ⟨ret_se (by rw [HR.out] <;> rfl) (by rw [HR.out]), H3.out.below⟩
      · rw [han, if_pos rfl] at HR
        have HAN := Lib.hid han
        clear han
        go_enter Tryz.func7, Tryz.ntmps7
        go_wp2_with fail
        go_region_held3 (fun w' => w'.cell? ⟨w.heap.size, 1, none⟩ = some (.string m) ∧ w'.cell? ⟨w.heap.size, 2, none⟩ = some (.string o) ∧ w'.cell? ⟨w.heap.size, 6, none⟩ = some (.string u)) (first | go_keep) (first | (refine step_append_any _ (by rfl) _ _ _ (by rfl) w.heap.size 22 i0 _ 1 16 Tryz.underlying25 hi0 hz0 hz1 hz2 rfl (by omega) (.slice (some ⟨w.heap.size + 1 + 1, 0, none⟩) 1 1) 1 ([x].map Value.string) (by rfl) (by first | exact HW1.out.own.2 | exact HW1.out.drew.own.2) _ A n c (ls.map Value.string) (by rfl) (by first | exact HRD1.out | exact HRD1.out.drew) (HONE.out ls) HMAX.out (by omega) (by simp; omega) ?_; intro v1 w1 hown1 hgrow hat; obtain ⟨A1, k1, rfl, n1⟩ := wit_row HN.out (by first | exact HW1.out | exact HW1.out.drew) hown1 hgrow; have p1 := n1.key.c1; have p2 := n1.key.c2; have p6 := n1.key.c6; have H1 := Lib.hid n1; clear n1 hown1 hgrow hat) | (refine step_append_any _ (by rfl) _ _ _ (by rfl) w.heap.size 22 i0 _ 1 16 Tryz.underlying25 hi0 hz0 hz1 hz2 rfl (by omega) (.slice (some ⟨w.heap.size + 1, 0, none⟩) 1 1) 1 ([x].map Value.string) (by rfl) (by first | exact HW2.out.own.2 | exact HW2.out.drew.own.2) _ A n c (ls.map Value.string) (by rfl) (by first | exact HRD2.out | exact HRD2.out.drew) (HONE.out ls) HMAX.out (by omega) (by simp; omega) ?_; intro v1 w1 hown1 hgrow hat; obtain ⟨A1, k1, rfl, n1⟩ := wit_row HN.out (by first | exact HW2.out | exact HW2.out.drew) hown1 hgrow; have p1 := n1.key.c1; have p2 := n1.key.c2; have p6 := n1.key.c6; have H1 := Lib.hid n1; clear n1 hown1 hgrow hat) | (refine step_append_any _ (by rfl) _ _ _ (by rfl) w.heap.size 22 i0 _ 1 16 Tryz.underlying25 hi0 hz0 hz1 hz2 rfl (by omega) (.slice (some ⟨w.heap.size + 1, 0, none⟩) 1 1) 1 ([x].map Value.string) (by rfl) (by first | exact HW3.out.2 | exact HW3.out.2.drew) _ A n c (ls.map Value.string) (by rfl) (by first | exact HRD3.out | exact HRD3.out.drew) (HONE.out ls) HMAX.out (by omega) (by simp; omega) ?_; intro v1 w1 hown1 hgrow hat; obtain ⟨A1, k1, rfl, n1⟩ := wit_row3 HN.out (by first | exact HK3.out | exact HK3.out.drew) rfl hown1 hgrow; have p1 := n1.key.c1; have p2 := n1.key.c2; have p6 := n1.key.c6; have H1 := Lib.hid n1; clear n1 hown1 hgrow hat) | (go_at_call 17; (first | (with_reducible refine (HRDY.out _ A1 k1 _ H1.out.us H1.out.ms).mono ?_) | (with_reducible refine (HRDY.out _ A1 k1 _ H1.out.drew.us H1.out.drew.ms).mono ?_)); rintro e w2 ⟨rfl, hb2⟩; have n2 : KeyAt w w.heap.size m o u w2 := by { first | exact H1.out.key.next hb2 | exact H1.out.drew.key.next hb2 }; have q1 := n2.c1; have q2 := n2.c2; have q6 := n2.c6; have H2 := Lib.hid n2; clear n2 hb2) | (go_at_call 17; (first | (with_reducible refine (HRDY.out _ A1 k1 _ H1.out.row.us H1.out.row.ms).mono ?_) | (with_reducible refine (HRDY.out _ A1 k1 _ H1.out.drew.row.us H1.out.drew.row.ms).mono ?_) | (with_reducible refine (HRDY.out _ A1 k1 _ H1.out.row.drew.us H1.out.row.drew.ms).mono ?_)); rintro e w2 ⟨rfl, hb2⟩; have n2 : KeyAt w w.heap.size m o u w2 := by { first | exact H1.out.row.key.next hb2 | exact H1.out.drew.row.key.next hb2 | exact H1.out.row.drew.key.next hb2 }; have q1 := n2.c1; have q2 := n2.c2; have q6 := n2.c6; have H2 := Lib.hid n2; clear n2 hb2))
        all_goals
          go_wp2_with (first | (go_at_call 18; (with_reducible refine (HSET1.out _ ((H2.out.sls HS.out).more H2.out.below.size) HTW.out).mono ?_); rintro e w3 ⟨bm, rfl, hbm, hsm, hb3⟩; have n3 := H2.out.next hb3; have r1 := n3.c1; have r2 := n3.c2; have r6 := n3.c6; have H3 := Lib.hid n3; have HSM := Lib.hid hsm; clear n3 hb3 hbm hsm) | (at_lookup; refine wpList_lookup_set _ rfl _ _ _ rfl Tryz.underlying58 bm _ _ rfl HSM.out x rfl HVX.out ?_; rw [HAN.out]))
          go_loopw [11, 41] (fun v11 v wr => ∃ (k : Nat) (l : List ByteArray) (A' : Option Addr) (c' : Nat), v11 = .slice A' l.length c' ∧ v = .int .i64 k ∧ k ≤ n ∧ l = (ls.take k).filter (fun y => !(y.toList == x.toList)) ∧ OwnS wr (w.heap.size + 1) (.slice A' l.length c') l.length l ∧ KeyAt w w.heap.size m o u wr) (fun _ v _ => n - (intOf v).toNat)
          case atStart => exact ⟨0, [], none, 0, rfl, rfl, Nat.zero_le _, by rw [List.take_zero]; rfl, OwnS.nil_ _ _, H3.out⟩
          case round =>
            obtain ⟨k, l, A', c', rfl, rfl, hk, hl, hown, hkey⟩ := hrel
            have HL := Lib.hid hl
            have HOWN := Lib.hid hown
            have HKEY := Lib.hid hkey
            have e1 := hkey.c1
            have e2 := hkey.c2
            have e6 := hkey.c6
            have HLL := Lib.hid (show l.length ≤ n from by rw [hl]; exact Nat.le_trans (List.length_filter_le _ _) (by rw [List.length_take]; omega))
            clear hl hown hkey
            by_cases hlt : k < n
            · obtain ⟨ad, rfl, hc⟩ := (HKEY.out.sls HS.out).at_ (k := k) (by rw [HN.out]; exact hlt)
              have htk := take_snoc' ls (k := k) (by rw [HN.out]; exact hlt)
              obtain ⟨y, hy⟩ : ∃ y, ls.getD k ByteArray.empty = y := ⟨_, rfl⟩
              rw [hy] at hc htk
              have HTK := Lib.hid htk
              have HLT := Lib.hid hlt
              clear hy hlt htk
              cases kb : (y.toList == x.toList)
              · have HF : Hid ((ls.take (k + 1)).filter (fun y => !(y.toList == x.toList)) = l ++ [y]) := Lib.hid (by rw [HTK.out, List.filter_append, ← HL.out]; simp [kb])
                have HOW2 := Lib.hid (HOWN.out.kept (B := 0) ((Below.refl _ _).alloc (Nat.le_refl _) (.cells #[.string y] 22)))
                have HRDY2 := Lib.hid ((SLs.new wr 22 [y] (wr.heap.size + 1) (by omega)).reads (n := 1) rfl)
                have HMX2 := Lib.hid (show l.length + 1 ≤ maxLen from by have := HLL.out; unfold maxLen; omega)
                have HBY2 := Lib.hid (show (l.length + 1) * 16 ≤ 140737488355328 from by have := HLL.out; omega)
                have HBS2 := Lib.hid (show w.heap.size + 1 ≤ (wr.alloc (.cells #[.string y] 22)).heap.size from by have := HKEY.out.size; simp; omega)
                go_wp2_with (at_builtin; refine wpList_append_any _ rfl (.tmp 48) (.tmp 50) _ rfl (w.heap.size + 1) 22 i0 _ 1 16 Tryz.underlying25 hi0 hz0 hz1 hz2 rfl (by omega) (.slice A' l.length c') l.length (l.map Value.string) rfl HOW2.out.2 (wr.heap.size + 1) _ 1 1 ([y].map Value.string) rfl HRDY2.out (HONE.out [y]) HMX2.out HBY2.out HBS2.out ?_; intro v5 w5 hown5 hg5 hat5; obtain ⟨A5, c5, rfl, ho5, hk5⟩ := wit_step HKEY.out HOW2.out hown5 hg5; have HO5 := Lib.hid ho5; have HK5 := Lib.hid hk5; clear hown5 hg5 hat5 ho5 hk5)
                go_roundw
                case rel => exact ⟨k + 1, l ++ [y], A5, c5, by simp, rfl, HLT.out, HF.out.symm, by simpa using HO5.out, HK5.out⟩
                case measure => have := HLT.out; simp only [intOf]; omega
              · have HF : Hid ((ls.take (k + 1)).filter (fun y => !(y.toList == x.toList)) = l) := Lib.hid (by rw [HTK.out, List.filter_append, ← HL.out]; simp [kb])
                go_wp2_with fail
                go_roundw
                case rel => exact ⟨k + 1, l, A', c', rfl, rfl, HLT.out, HF.out.symm, HOWN.out, HKEY.out⟩
                case measure => have := HLT.out; simp only [intOf]; omega
            · obtain rfl : k = n := by omega
              have HT : Hid (ls.take k = ls) := Lib.hid (List.take_of_length_le (by rw [HN.out]; exact Nat.le_refl _))
              have HSL5 := Lib.hid (own_sls HOWN.out HKEY.out.size)
              have HVL5 := Lib.hid (show l.all valid = true from by rw [HL.out, HT.out]; exact all_filter HVL.out)
              have HLM := Lib.hid (show l.length ≤ 1000 from by have := HLL.out; omega)
              go_wp2_with (go_at_call 19; (with_reducible refine (HRZ.out l A' l.length c' _ rfl HLM.out HSL5.out HVL5.out).mono ?_); rintro e w7 ⟨rfl, hb7⟩)
              go_ret2
              exact ⟨ret_se (by rw [HR.out, HL.out, HT.out]) (by rw [HR.out]), (HKEY.out.next hb7).below⟩
    · rw [htw, if_pos rfl] at HR
      have HTW := Lib.hid htw
      clear htw
      go_enter Tryz.func7, Tryz.ntmps7
      go_wp2_with fail
      go_region_held3 (fun w' => w'.cell? ⟨w.heap.size, 1, none⟩ = some (.string m) ∧ w'.cell? ⟨w.heap.size, 2, none⟩ = some (.string o) ∧ w'.cell? ⟨w.heap.size, 6, none⟩ = some (.string u)) (first | go_keep) (first | (refine step_append_any _ (by rfl) _ _ _ (by rfl) w.heap.size 22 i0 _ 1 16 Tryz.underlying25 hi0 hz0 hz1 hz2 rfl (by omega) (.slice (some ⟨w.heap.size + 1 + 1, 0, none⟩) 1 1) 1 ([x].map Value.string) (by rfl) (by first | exact HW1.out.own.2 | exact HW1.out.drew.own.2) _ A n c (ls.map Value.string) (by rfl) (by first | exact HRD1.out | exact HRD1.out.drew) (HONE.out ls) HMAX.out (by omega) (by simp; omega) ?_; intro v1 w1 hown1 hgrow hat; obtain ⟨A1, k1, rfl, n1⟩ := wit_row HN.out (by first | exact HW1.out | exact HW1.out.drew) hown1 hgrow; have p1 := n1.key.c1; have p2 := n1.key.c2; have p6 := n1.key.c6; have H1 := Lib.hid n1; clear n1 hown1 hgrow hat) | (refine step_append_any _ (by rfl) _ _ _ (by rfl) w.heap.size 22 i0 _ 1 16 Tryz.underlying25 hi0 hz0 hz1 hz2 rfl (by omega) (.slice (some ⟨w.heap.size + 1, 0, none⟩) 1 1) 1 ([x].map Value.string) (by rfl) (by first | exact HW2.out.own.2 | exact HW2.out.drew.own.2) _ A n c (ls.map Value.string) (by rfl) (by first | exact HRD2.out | exact HRD2.out.drew) (HONE.out ls) HMAX.out (by omega) (by simp; omega) ?_; intro v1 w1 hown1 hgrow hat; obtain ⟨A1, k1, rfl, n1⟩ := wit_row HN.out (by first | exact HW2.out | exact HW2.out.drew) hown1 hgrow; have p1 := n1.key.c1; have p2 := n1.key.c2; have p6 := n1.key.c6; have H1 := Lib.hid n1; clear n1 hown1 hgrow hat) | (refine step_append_any _ (by rfl) _ _ _ (by rfl) w.heap.size 22 i0 _ 1 16 Tryz.underlying25 hi0 hz0 hz1 hz2 rfl (by omega) (.slice (some ⟨w.heap.size + 1, 0, none⟩) 1 1) 1 ([x].map Value.string) (by rfl) (by first | exact HW3.out.2 | exact HW3.out.2.drew) _ A n c (ls.map Value.string) (by rfl) (by first | exact HRD3.out | exact HRD3.out.drew) (HONE.out ls) HMAX.out (by omega) (by simp; omega) ?_; intro v1 w1 hown1 hgrow hat; obtain ⟨A1, k1, rfl, n1⟩ := wit_row3 HN.out (by first | exact HK3.out | exact HK3.out.drew) rfl hown1 hgrow; have p1 := n1.key.c1; have p2 := n1.key.c2; have p6 := n1.key.c6; have H1 := Lib.hid n1; clear n1 hown1 hgrow hat) | (go_at_call 17; (first | (with_reducible refine (HRDY.out _ A1 k1 _ H1.out.us H1.out.ms).mono ?_) | (with_reducible refine (HRDY.out _ A1 k1 _ H1.out.drew.us H1.out.drew.ms).mono ?_)); rintro e w2 ⟨rfl, hb2⟩; have n2 : KeyAt w w.heap.size m o u w2 := by { first | exact H1.out.key.next hb2 | exact H1.out.drew.key.next hb2 }; have q1 := n2.c1; have q2 := n2.c2; have q6 := n2.c6; have H2 := Lib.hid n2; clear n2 hb2) | (go_at_call 17; (first | (with_reducible refine (HRDY.out _ A1 k1 _ H1.out.row.us H1.out.row.ms).mono ?_) | (with_reducible refine (HRDY.out _ A1 k1 _ H1.out.drew.row.us H1.out.drew.row.ms).mono ?_) | (with_reducible refine (HRDY.out _ A1 k1 _ H1.out.row.drew.us H1.out.row.drew.ms).mono ?_)); rintro e w2 ⟨rfl, hb2⟩; have n2 : KeyAt w w.heap.size m o u w2 := by { first | exact H1.out.row.key.next hb2 | exact H1.out.drew.row.key.next hb2 | exact H1.out.row.drew.key.next hb2 }; have q1 := n2.c1; have q2 := n2.c2; have q6 := n2.c6; have H2 := Lib.hid n2; clear n2 hb2))
      all_goals
        go_wp2_with (go_at_call 18; (with_reducible refine (HSET2.out _ ((H2.out.sls HS.out).more H2.out.below.size) HTW.out).mono ?_); rintro e w3 ⟨rfl, hb3⟩; have H3 := Lib.hid (H2.out.next hb3); clear hb3)
        go_ret2
        exact ⟨ret_se (by rw [HR.out] <;> rfl) (by rw [HR.out]), H3.out.below⟩
  · rw [if_neg h0] at HR
    have hnb : (re != 0) = true := by rw [bne_iff_ne]; exact h0
    clear h0 hok
    go_enter Tryz.func7, Tryz.ntmps7
    go_wp2_with fail
    go_region_held3 (fun w' => w'.cell? ⟨w.heap.size, 1, none⟩ = some (.string m) ∧ w'.cell? ⟨w.heap.size, 2, none⟩ = some (.string o) ∧ w'.cell? ⟨w.heap.size, 6, none⟩ = some (.string u)) (first | go_keep) (first | (refine step_append_any _ (by rfl) _ _ _ (by rfl) w.heap.size 22 i0 _ 1 16 Tryz.underlying25 hi0 hz0 hz1 hz2 rfl (by omega) (.slice (some ⟨w.heap.size + 1 + 1, 0, none⟩) 1 1) 1 ([x].map Value.string) (by rfl) (by first | exact HW1.out.own.2 | exact HW1.out.drew.own.2) _ A n c (ls.map Value.string) (by rfl) (by first | exact HRD1.out | exact HRD1.out.drew) (HONE.out ls) HMAX.out (by omega) (by simp; omega) ?_; intro v1 w1 hown1 hgrow hat; obtain ⟨A1, k1, rfl, n1⟩ := wit_row HN.out (by first | exact HW1.out | exact HW1.out.drew) hown1 hgrow; have p1 := n1.key.c1; have p2 := n1.key.c2; have p6 := n1.key.c6; have H1 := Lib.hid n1; clear n1 hown1 hgrow hat) | (refine step_append_any _ (by rfl) _ _ _ (by rfl) w.heap.size 22 i0 _ 1 16 Tryz.underlying25 hi0 hz0 hz1 hz2 rfl (by omega) (.slice (some ⟨w.heap.size + 1, 0, none⟩) 1 1) 1 ([x].map Value.string) (by rfl) (by first | exact HW2.out.own.2 | exact HW2.out.drew.own.2) _ A n c (ls.map Value.string) (by rfl) (by first | exact HRD2.out | exact HRD2.out.drew) (HONE.out ls) HMAX.out (by omega) (by simp; omega) ?_; intro v1 w1 hown1 hgrow hat; obtain ⟨A1, k1, rfl, n1⟩ := wit_row HN.out (by first | exact HW2.out | exact HW2.out.drew) hown1 hgrow; have p1 := n1.key.c1; have p2 := n1.key.c2; have p6 := n1.key.c6; have H1 := Lib.hid n1; clear n1 hown1 hgrow hat) | (refine step_append_any _ (by rfl) _ _ _ (by rfl) w.heap.size 22 i0 _ 1 16 Tryz.underlying25 hi0 hz0 hz1 hz2 rfl (by omega) (.slice (some ⟨w.heap.size + 1, 0, none⟩) 1 1) 1 ([x].map Value.string) (by rfl) (by first | exact HW3.out.2 | exact HW3.out.2.drew) _ A n c (ls.map Value.string) (by rfl) (by first | exact HRD3.out | exact HRD3.out.drew) (HONE.out ls) HMAX.out (by omega) (by simp; omega) ?_; intro v1 w1 hown1 hgrow hat; obtain ⟨A1, k1, rfl, n1⟩ := wit_row3 HN.out (by first | exact HK3.out | exact HK3.out.drew) rfl hown1 hgrow; have p1 := n1.key.c1; have p2 := n1.key.c2; have p6 := n1.key.c6; have H1 := Lib.hid n1; clear n1 hown1 hgrow hat) | (go_at_call 17; (first | (with_reducible refine (HRDY.out _ A1 k1 _ H1.out.us H1.out.ms).mono ?_) | (with_reducible refine (HRDY.out _ A1 k1 _ H1.out.drew.us H1.out.drew.ms).mono ?_)); rintro e w2 ⟨rfl, hb2⟩; have n2 : KeyAt w w.heap.size m o u w2 := by { first | exact H1.out.key.next hb2 | exact H1.out.drew.key.next hb2 }; have q1 := n2.c1; have q2 := n2.c2; have q6 := n2.c6; have H2 := Lib.hid n2; clear n2 hb2) | (go_at_call 17; (first | (with_reducible refine (HRDY.out _ A1 k1 _ H1.out.row.us H1.out.row.ms).mono ?_) | (with_reducible refine (HRDY.out _ A1 k1 _ H1.out.drew.row.us H1.out.drew.row.ms).mono ?_) | (with_reducible refine (HRDY.out _ A1 k1 _ H1.out.row.drew.us H1.out.row.drew.ms).mono ?_)); rintro e w2 ⟨rfl, hb2⟩; have n2 : KeyAt w w.heap.size m o u w2 := by { first | exact H1.out.row.key.next hb2 | exact H1.out.drew.row.key.next hb2 | exact H1.out.row.drew.key.next hb2 }; have q1 := n2.c1; have q2 := n2.c2; have q6 := n2.c6; have H2 := Lib.hid n2; clear n2 hb2))
    all_goals
      go_wp2_with fail
      go_ret2
      exact ⟨ret_se (by rw [HR.out] <;> rfl) (by rw [HR.out]), H2.out.below⟩
end Go.Proofs.YtcpglhjmhegfmaaGreatDoor
