/- The walks of shamir: twice on numbers, points, Coefs. The walk of shamir.Interpolate. Slices and sets of ints; the walk of shamir's twice on ints. The walk of shamir.Combine. -/
import Derived.Test.YtapplggboepfaaaGreatDoorSg
import Derived.Test.YtapplggboepfaaaGreatDoorSi
import Derived.OwnWalk
import Derived.Maps.AppendAt
import Derived.Maps.Keyed
import Derived.Test.YtapplggboepfaaaGreatDoorPZ
namespace Go.Proofs.YtapplggboepfaaaGreatDoor
open Go.RowKit
set_option maxRecDepth 100000
set_option linter.unusedVariables false
set_option linter.unusedSimpArgs false
set_option maxHeartbeats 4000000

theorem twiceB_snocS (l : List ByteArray) (s : ByteArray) : twiceB (l ++ [s]) = (twiceB l || l.any (fun x => x.toList == s.toList)) := by
  induction l with
  | nil => rfl
  | cons u l ih =>
    simp only [List.cons_append, twiceB, List.any_append, List.any_cons, List.any_nil, Bool.or_false, ih]
    have e : (s.toList == u.toList) = (u.toList == s.toList) := Bool.beq_comm
    rw [e]
    cases l.any (fun x => x.toList == u.toList) <;> cases (u.toList == s.toList) <;> cases twiceB l <;> rfl
theorem twiceB_appS (a b : List ByteArray) (h : twiceB a = true) : twiceB (a ++ b) = true := by
  induction a with
  | nil => simp [twiceB] at h
  | cons u a ih =>
    simp only [List.cons_append, twiceB, List.any_append, Bool.or_eq_true] at h ⊢
    rcases h with h | h
    · exact .inl (.inl h)
    · exact .inr (ih h)
theorem take_snocS (ls : List ByteArray) {k : Nat} (h : k < ls.length) : ls.take (k + 1) = ls.take k ++ [ls.getD k ByteArray.empty] := by
  rw [List.take_succ_eq_append_getElem h, sgetD_lt h]
theorem SetMap.snocS {w : World} {b n : Nat} {l : List ByteArray} {s : ByteArray} (h : SetMap w b n (s :: l)) : SetMap w b n (l ++ [s]) := by
  obtain ⟨D, h1, h2, h3⟩ := h
  refine ⟨D, h1, h2, fun t => ?_⟩
  rw [h3 t, List.any_cons, List.any_append, List.any_cons, List.any_nil, Bool.or_false, Bool.or_comm]
theorem sall_at {ls : List ByteArray} {p : ByteArray → Bool} {k : Nat} (h : ls.all p = true) (hk : k < ls.length) : p (ls.getD k ByteArray.empty) = true := by
  rw [sgetD_lt hk]; exact List.all_eq_true.1 h _ (List.getElem_mem hk)
theorem valid_sizeS {s : ByteArray} (h : valid s = true) : s.size ≤ 1000 := by
  unfold valid at h
  simp only [Bool.and_eq_true, decide_eq_true_eq] at h
  omega
theorem shamir_twice (ls : List ByteArray) (A : Option Addr) (n c : Nat) (w : World) (hn : ls.length = n) (hm : n ≤ 1000) (h : SLs w w.heap.size A ls) (hv : ls.all valid = true) :
    Calls Tryz.prog 55 #[.slice A n c] w fun e w' => e = .returned (.bool (twiceB ls)) ∧ Below w.heap.size w w' := by
  have HN := Lib.hid hn
  have HS := Lib.hid h
  have HV := Lib.hid hv
  have hmm := @run_makeMap Tryz.prog
  clear hn h hv
  go_enter Tryz.func55, Tryz.ntmps55
  go_wp2
  obtain ⟨G, hG⟩ : ∃ G, w.heap.size = G := ⟨_, rfl⟩
  have HG := Lib.hid hG
  have hs0 : SetMap (w.alloc (.map #[] 0)) G 0 [] := by rw [← hG]; exact SetMap.made w
  have hb0 : Below G w (w.alloc (.map #[] 0)) := (Below.refl _ _).alloc (by rw [hG]; exact Nat.le_refl _) _
  rw [hG] at HS ⊢
  have HS0 := Lib.hid hs0
  have HB0 := Lib.hid hb0
  clear hG hs0 hb0 hmm
  go_loopw [9] (fun v wr => ∃ k : Nat, v = .int .i64 k ∧ k ≤ n ∧ twiceB (ls.take k) = false ∧ SetMap wr G k (ls.take k) ∧ Below G w wr) (fun v _ => n - (intOf v).toNat)
  case atStart => exact ⟨0, rfl, Nat.zero_le _, by rw [List.take_zero]; rfl, by rw [List.take_zero]; exact HS0.out, HB0.out⟩
  case round =>
    obtain ⟨k, rfl, hk, htw, hset, hbel⟩ := hrel
    have HTW := Lib.hid htw
    have HSET := Lib.hid hset
    have HBEL := Lib.hid hbel
    clear htw hset hbel
    by_cases hlt : k < n
    · obtain ⟨ad, rfl, hc⟩ := (HS.out.below HBEL.out).at_ (k := k) (by rw [HN.out]; exact hlt)
      have hvs := sall_at HV.out (k := k) (by rw [HN.out]; exact hlt)
      have htk := take_snocS ls (k := k) (by rw [HN.out]; exact hlt)
      have htl : ls = ls.take (k + 1) ++ ls.drop (k + 1) := (List.take_append_drop _ _).symm
      obtain ⟨x, hx⟩ : ∃ x, ls.getD k ByteArray.empty = x := ⟨_, rfl⟩
      rw [hx] at hc hvs htk
      have HSZ := Lib.hid (valid_sizeS hvs)
      have HTK := Lib.hid htk
      have HTL := Lib.hid htl
      have HLT := Lib.hid hlt
      clear hx hlt htk hvs htl
      cases hb : (ls.take k).any (fun y => y.toList == x.toList)
      · have HB := Lib.hid hb
        go_wp2_with (first | (at_lookup; refine wpList_lookup_set _ rfl _ _ _ rfl Tryz.underlying104 G k _ rfl HSET.out x rfl HSZ.out ?_; rw [hb]) | (at_mapUpdate; refine wpList_put_set _ rfl _ _ _ _ rfl Tryz.underlying104 G k _ rfl HSET.out (by omega) x rfl rfl HSZ.out ?_; intro w2 hset2 hb2 hz2))
        go_roundw
        case rel => exact ⟨k + 1, by first | rfl | (rw [IntWalk.wrap64_in _ (by omega)]; rfl), HLT.out, by rw [HTK.out, twiceB_snocS, HTW.out, HB.out]; rfl, by rw [HTK.out]; exact hset2.snocS, HBEL.out.trans hb2⟩
        case measure => have := HLT.out; (try rw [IntWalk.wrap64_in _ (by omega)]); simp only [intOf]; omega
      · have HF : Hid (twiceB ls = true) := Lib.hid (by rw [HTL.out]; refine twiceB_appS _ _ ?_; rw [HTK.out, twiceB_snocS, hb, Bool.or_true])
        have HB := Lib.hid hb
        clear hb
        go_wp2_with (first | (at_lookup; refine wpList_lookup_set _ rfl _ _ _ rfl Tryz.underlying104 G k _ rfl HSET.out x rfl HSZ.out ?_; rw [HB.out]))
        go_ret
        exact ⟨by rw [HF.out]; rfl, by rw [HG.out]; exact HBEL.out⟩
    · obtain rfl : k = n := by omega
      have HT : Hid (ls.take k = ls) := Lib.hid (List.take_of_length_le (by rw [HN.out]; exact Nat.le_refl _))
      go_wp2_with fail
      go_ret
      have h1 := HTW.out
      rw [HT.out] at h1
      exact ⟨by rw [h1]; rfl, by rw [HG.out]; exact HBEL.out⟩
theorem check_three (q x : ByteArray) (xs ys : List ByteArray) (A A2 : Option Addr) (n n2 c c2 : Nat) (w : World) (hn : xs.length = n) (hn2 : ys.length = n2) (hm : n ≤ 1000) (hm2 : n2 ≤ 1000) (h : SLs w w.heap.size A xs) (h' : SLs w w.heap.size A2 ys) (hT : Tab w) (T1 T2 : TypeId) :
    Calls Tryz.prog 27 #[.string q, .slice (some ⟨w.heap.size + 1, 0, none⟩) 3 3] ((w.alloc (.cells #[.string x] T1)).alloc (.cells #[.slice A n c, .slice A2 n2 c2, .slice (some ⟨w.heap.size, 0, none⟩) 1 1] T2)) fun e w' => e = .returned (.int .i64 (shE q [xs, ys, [x]])) ∧ Below w.heap.size w w' := by
  have hb : Below w.heap.size w (w.alloc (.cells #[.string x] T1)) := (Below.refl _ _).alloc (Nat.le_refl _) _
  have hll := LLs.new (w.alloc (.cells #[.string x] T1)) T2 [(A, n, c, xs), (A2, n2, c2, ys), (some ⟨w.heap.size, 0, none⟩, 1, 1, [x])] (by
    intro l hl
    rcases List.mem_cons.1 hl with rfl | hl
    · exact ⟨hn, hm, h.to hb⟩
    · rcases List.mem_cons.1 hl with rfl | hl
      · exact ⟨hn2, hm2, h'.to hb⟩
      · rcases List.mem_cons.1 hl with rfl | hl
        · exact ⟨rfl, by show (1 : Nat) ≤ 1000; decide, sls_one w T1 x⟩
        · cases hl)
  rw [World.size_alloc] at hll
  refine (shamir_check q _ (w.heap.size + 1) 3 _ rfl (by decide) hll ((hT.alloc _).alloc _)).mono ?_
  rintro e w' ⟨rfl, hb'⟩
  exact ⟨rfl, below2 (hb.alloc hb.size _) hb'⟩
theorem shamir_points (q x : ByteArray) (xs ys : List ByteArray) (A A2 : Option Addr) (n n2 c c2 : Nat) (w : World) (hn : xs.length = n) (hn2 : ys.length = n2) (hm : n ≤ 1000) (hm2 : n2 ≤ 1000) (h : SLs w w.heap.size A xs) (h' : SLs w w.heap.size A2 ys) (hT : Tab w) :
    Calls Tryz.prog 38 #[.string q, .slice A n c, .slice A2 n2 c2, .string x] w fun e w' => e = .returned (.int .i64 (ptsE q xs ys x)) ∧ Below w.heap.size w w' := by
  have HCK := Lib.hid (fun T1 T2 => check_three q x xs ys A A2 n n2 c c2 w hn hn2 hm hm2 h h' hT T1 T2)
  have hev : ptsE q xs ys x = if shE q [xs, ys, [x]] = 0 then (if xs.length ≠ ys.length ∨ 256 < xs.length then 6 else if (blwS q xs && (blwS q ys && blwS q [x])) = true then (if twiceB xs = true then 8 else 0) else 2) else shE q [xs, ys, [x]] := rfl
  rw [hn, hn2] at hev
  have KB1 := fun w1 (h1 : Below w.heap.size w w1) => shamir_below q xs A n c w1 hn hm (h.to h1)
  have KB2 := fun w1 (h1 : Below w.heap.size w w1) => shamir_below q ys A2 n2 c2 w1 hn2 hm2 (h'.to h1)
  have KB3 := fun (W : World) T => shamir_below q [x] (some ⟨W.heap.size, 0, none⟩) 1 1 (W.alloc (.cells #[.string x] T)) rfl (by decide) (sls_one W T x)
  obtain ⟨e0, he0⟩ : ∃ e0, e0 = shE q [xs, ys, [x]] := ⟨_, rfl⟩
  rw [← he0] at HCK hev
  by_cases h0 : e0 = 0
  · subst h0
    have hsh := shE_zero he0.symm
    have KT := fun w1 (h1 : Below w.heap.size w w1) => shamir_twice xs A n c w1 hn hm (h.to h1) (hsh.1 xs (by simp))
    rw [if_pos rfl] at hev
    by_cases hl : n ≠ n2 ∨ 256 < n
    · rw [if_pos hl] at hev
      have HE := Lib.hid hev
      by_cases hne : n = n2
      · have k1 : ((n : Int) != (n2 : Int)) = false := by simp; omega
        have k1' : ((n : Int) == (n2 : Int)) = true := by simp; omega
        have k2 : decide ((256 : Int) < (n : Int)) = true := by rw [decide_eq_true_eq]; omega
        clear hn hn2 hm hm2 h h' hT hev he0 hsh KT KB1 KB2 KB3 hl hne
        go_enter Tryz.func38, Tryz.ntmps38
        go_wp2_with (first
          | (go_at_call 27; (with_reducible refine (HCK.out _ _).mono ?_); rintro e w1 ⟨rfl, hb1⟩; have HB1 := Lib.hid hb1; clear hb1))
        go_ret
        exact ⟨by rw [HE.out]; rfl, HB1.out⟩
      · have k1 : ((n : Int) != (n2 : Int)) = true := by simp; omega
        have k1' : ((n : Int) == (n2 : Int)) = false := by simp; omega
        clear hn hn2 hm hm2 h h' hT hev he0 hsh KT KB1 KB2 KB3 hl hne
        go_enter Tryz.func38, Tryz.ntmps38
        go_wp2_with (first
          | (go_at_call 27; (with_reducible refine (HCK.out _ _).mono ?_); rintro e w1 ⟨rfl, hb1⟩; have HB1 := Lib.hid hb1; clear hb1))
        go_ret
        exact ⟨by rw [HE.out]; rfl, HB1.out⟩
    · rw [if_neg hl] at hev
      have hne : n = n2 := by omega
      have k1 : ((n : Int) != (n2 : Int)) = false := by simp; omega
      have k1' : ((n : Int) == (n2 : Int)) = true := by simp; omega
      have k2 : decide ((256 : Int) < (n : Int)) = false := by rw [decide_eq_false_iff_not]; omega
      obtain ⟨b1, hb1⟩ : ∃ b1, b1 = blwS q xs := ⟨_, rfl⟩
      obtain ⟨b2, hb2⟩ : ∃ b2, b2 = blwS q ys := ⟨_, rfl⟩
      obtain ⟨b3, hb3⟩ : ∃ b3, b3 = blwS q [x] := ⟨_, rfl⟩
      obtain ⟨tw, htw⟩ : ∃ tw, tw = twiceB xs := ⟨_, rfl⟩
      rw [← hb1, ← hb2, ← hb3, ← htw] at hev
      rw [← hb1] at KB1
      rw [← hb2] at KB2
      rw [← hb3] at KB3
      simp only [← htw] at KT
      have KB1 := Lib.hid KB1
      have KB2 := Lib.hid KB2
      have KB3 := Lib.hid KB3
      have KT := Lib.hid KT
      have HEV := Lib.hid hev
      clear hn hn2 hm hm2 h h' hT hev he0 hsh hl hne hb1 hb2 hb3 htw
      cases b1
      · have HE := Lib.hid (show ptsE q xs ys x = 2 by rw [HEV.out]; rfl)
        clear HEV
        go_enter Tryz.func38, Tryz.ntmps38
        go_wp2_with (first
          | (go_at_call 27; (with_reducible refine (HCK.out _ _).mono ?_); rintro e w1 ⟨rfl, hb1⟩; have HB1 := Lib.hid hb1; clear hb1)
          | (go_at_call 28; (with_reducible refine (KB1.out _ HB1.out).mono ?_); rintro e w2 ⟨rfl, rfl⟩))
        go_ret
        exact ⟨by rw [HE.out]; rfl, HB1.out⟩
      · cases b2
        · have HE := Lib.hid (show ptsE q xs ys x = 2 by rw [HEV.out]; rfl)
          clear HEV
          go_enter Tryz.func38, Tryz.ntmps38
          go_wp2_with (first
            | (go_at_call 27; (with_reducible refine (HCK.out _ _).mono ?_); rintro e w1 ⟨rfl, hb1⟩; have HB1 := Lib.hid hb1; clear hb1)
            | (go_at_call 28; (with_reducible refine (KB1.out _ HB1.out).mono ?_); rintro e w2 ⟨rfl, rfl⟩)
            | (go_at_call 28; (with_reducible refine (KB2.out _ HB1.out).mono ?_); rintro e w2 ⟨rfl, rfl⟩))
          go_ret
          exact ⟨by rw [HE.out]; rfl, HB1.out⟩
        · cases b3
          · have HE := Lib.hid (show ptsE q xs ys x = 2 by rw [HEV.out]; rfl)
            clear HEV
            go_enter Tryz.func38, Tryz.ntmps38
            go_wp2_with (first
              | (go_at_call 27; (with_reducible refine (HCK.out _ _).mono ?_); rintro e w1 ⟨rfl, hb1⟩; have HB1 := Lib.hid hb1; clear hb1)
              | (go_at_call 28; (with_reducible refine (KB1.out _ HB1.out).mono ?_); rintro e w2 ⟨rfl, rfl⟩)
              | (go_at_call 28; (with_reducible refine (KB2.out _ HB1.out).mono ?_); rintro e w2 ⟨rfl, rfl⟩)
              | (go_at_call 28; (with_reducible refine (KB3.out _ _).mono ?_); rintro e w3 ⟨rfl, rfl⟩))
            go_ret
            exact ⟨by rw [HE.out]; rfl, HB1.out.alloc HB1.out.size _⟩
          · cases tw
            · have HE := Lib.hid (show ptsE q xs ys x = 0 by rw [HEV.out]; rfl)
              clear HEV
              go_enter Tryz.func38, Tryz.ntmps38
              go_wp2_with (first
                | (go_at_call 27; (with_reducible refine (HCK.out _ _).mono ?_); rintro e w1 ⟨rfl, hb1⟩; have HB1 := Lib.hid hb1; clear hb1)
                | (go_at_call 28; (with_reducible refine (KB1.out _ HB1.out).mono ?_); rintro e w2 ⟨rfl, rfl⟩)
                | (go_at_call 28; (with_reducible refine (KB2.out _ HB1.out).mono ?_); rintro e w2 ⟨rfl, rfl⟩)
                | (go_at_call 28; (with_reducible refine (KB3.out _ _).mono ?_); rintro e w3 ⟨rfl, rfl⟩)
                | (go_at_call 55; (with_reducible refine (KT.out _ (HB1.out.alloc HB1.out.size _)).mono ?_); rintro e w4 ⟨rfl, hb4⟩; have HB4 := Lib.hid (below2 (HB1.out.alloc HB1.out.size _) hb4); clear hb4))
              go_ret
              exact ⟨by rw [HE.out]; rfl, HB4.out⟩
            · have HE := Lib.hid (show ptsE q xs ys x = 8 by rw [HEV.out]; rfl)
              clear HEV
              go_enter Tryz.func38, Tryz.ntmps38
              go_wp2_with (first
                | (go_at_call 27; (with_reducible refine (HCK.out _ _).mono ?_); rintro e w1 ⟨rfl, hb1⟩; have HB1 := Lib.hid hb1; clear hb1)
                | (go_at_call 28; (with_reducible refine (KB1.out _ HB1.out).mono ?_); rintro e w2 ⟨rfl, rfl⟩)
                | (go_at_call 28; (with_reducible refine (KB2.out _ HB1.out).mono ?_); rintro e w2 ⟨rfl, rfl⟩)
                | (go_at_call 28; (with_reducible refine (KB3.out _ _).mono ?_); rintro e w3 ⟨rfl, rfl⟩)
                | (go_at_call 55; (with_reducible refine (KT.out _ (HB1.out.alloc HB1.out.size _)).mono ?_); rintro e w4 ⟨rfl, hb4⟩; have HB4 := Lib.hid (below2 (HB1.out.alloc HB1.out.size _) hb4); clear hb4))
              go_ret
              exact ⟨by rw [HE.out]; rfl, HB4.out⟩
  · have k0 : (e0 == 0) = false := by rw [beq_eq_false_iff_ne]; exact h0
    have HE := Lib.hid (show ptsE q xs ys x = e0 by rw [hev, if_neg h0])
    clear hn hn2 hm hm2 h h' hT hev he0 h0 KB1 KB2 KB3
    go_enter Tryz.func38, Tryz.ntmps38
    go_wp2_with (first
      | (go_at_call 27; (with_reducible refine (HCK.out _ _).mono ?_); rintro e w1 ⟨rfl, hb1⟩; have HB1 := Lib.hid hb1; clear hb1))
    go_ret
    exact ⟨by rw [HE.out]; rfl, HB1.out⟩
/-- What good points are. -/
theorem ptsE_zero {q x : ByteArray} {xs ys : List ByteArray} (h : ptsE q xs ys x = 0) : ∃ Q, QOk q Q ∧ Q = num q ∧ xs.length = ys.length ∧ xs.length ≤ 256 ∧ (xs = (xs.map num).map B ∧ ∀ a ∈ xs.map num, a < Q) ∧ (ys = (ys.map num).map B ∧ ∀ a ∈ ys.map num, a < Q) ∧ (x = B (num x) ∧ num x < Q) ∧ twiceB xs = false := by
  unfold ptsE at h
  by_cases h0 : shE q [xs, ys, [x]] = 0
  · rw [if_pos h0] at h
    by_cases hl : xs.length ≠ ys.length ∨ 256 < xs.length
    · rw [if_pos hl] at h; cases h
    · rw [if_neg hl] at h
      by_cases hb : (blwS q xs && (blwS q ys && blwS q [x])) = true
      · rw [if_pos hb] at h
        simp only [Bool.and_eq_true] at hb
        have hsh := shE_zero h0
        have hQ := isE_zero hsh.2
        have hx := blw_nums hQ (hsh.1 [x] (by simp)) hb.2.2
        refine ⟨num q, hQ, rfl, by omega, by omega, blw_nums hQ (hsh.1 xs (by simp)) hb.1, blw_nums hQ (hsh.1 ys (by simp)) hb.2.1, ⟨by simpa using hx.1, hx.2 _ (by simp)⟩, ?_⟩
        by_cases ht : twiceB xs = true
        · rw [if_pos ht] at h; cases h
        · simpa using ht
      · rw [if_neg hb] at h; cases h
  · rw [if_neg h0] at h; exact absurd h h0
theorem shamir_Coefs (q : ByteArray) (xs ys : List ByteArray) (A A2 : Option Addr) (n n2 c c2 : Nat) (w : World) (hn : xs.length = n) (hn2 : ys.length = n2) (hm : n ≤ 1000) (hm2 : n2 ≤ 1000) (h : SLs w w.heap.size A xs) (h' : SLs w w.heap.size A2 ys) (hT : Tab w) :
    Calls Tryz.prog 15 #[.string q, .slice A n c, .slice A2 n2 c2] w fun e w' => ((ptsE q xs ys ⟨#[]⟩ = 0 ∧ ∃ g, e = .returned (.tuple #[.slice (some ⟨g, 0, none⟩) n n, .int .i64 0]) ∧ RowN w' g (thruL (num q) (xs.map num) (ys.map num))) ∨
      (ptsE q xs ys ⟨#[]⟩ ≠ 0 ∧ e = .returned (.tuple #[.slice none 0 0, .int .i64 (ptsE q xs ys ⟨#[]⟩)]))) ∧ Below w.heap.size w w' := by
  have KP := fun w1 (h1 : Below w.heap.size w w1) => shamir_points q ⟨#[]⟩ xs ys A A2 n n2 c c2 w1 hn hn2 hm hm2 (h.to h1) (h'.to h1) (hT.below h1)
  obtain ⟨e0, he0⟩ : ∃ e0, e0 = ptsE q xs ys ⟨#[]⟩ := ⟨_, rfl⟩
  simp only [← he0] at KP
  have KP := Lib.hid KP
  rw [← he0]
  by_cases h0 : e0 = 0
  · subst h0
    obtain ⟨Q, hQ, hQn, hl, hl256, hx, hy, hxx, htw⟩ := ptsE_zero he0.symm
    clear hxx htw
    have KT := fun w1 (h1 : Below w.heap.size w w1) => shamir_through Q (xs.map num) (ys.map num) A A2 n c c2 w1 hQ.lt hQ.two hx.2 hy.2 (by rw [List.length_map]; exact hn) (by rw [List.length_map]; omega) (by omega) (by rw [← hx.1]; exact h.to h1) (by rw [← hy.1]; exact h'.to h1)
    rw [← hQ.eq] at KT
    have hnn : n2 = n := by omega
    subst hnn
    rw [hQn] at KT
    have KT := Lib.hid KT
    clear hn hn2 hm hm2 h h' hT he0 hQ hQn hl hl256 hx hy
    go_enter Tryz.func15, Tryz.ntmps15
    go_wp2_with (first
      | (go_at_call 38; (with_reducible refine (KP.out _ (Below.refl _ _)).mono ?_); rintro e w1 ⟨rfl, hb1⟩; have HB1 := Lib.hid hb1; clear hb1)
      | (go_at_call 35; (with_reducible refine (KT.out _ HB1.out).mono ?_); rintro e w2 ⟨rfl, hr2, hb2⟩; have HR2 := Lib.hid hr2; have HB2 := Lib.hid (below2 HB1.out hb2); clear hr2 hb2))
    go_ret2
    exact ⟨.inl ⟨by first | trivial | rfl, _, rfl, HR2.out⟩, HB2.out⟩
  · have k0 : (e0 == 0) = false := by rw [beq_eq_false_iff_ne]; exact h0
    have H0 := Lib.hid h0
    clear hn hn2 hm hm2 h h' hT he0 h0
    go_enter Tryz.func15, Tryz.ntmps15
    go_wp2_with (first
      | (go_at_call 38; (with_reducible refine (KP.out _ (Below.refl _ _)).mono ?_); rintro e w1 ⟨rfl, hb1⟩; have HB1 := Lib.hid hb1; clear hb1))
    go_ret2
    exact ⟨.inr ⟨H0.out, rfl⟩, HB1.out⟩

end Go.Proofs.YtapplggboepfaaaGreatDoor

namespace Go.Proofs.YtapplggboepfaaaGreatDoor
open Go.RowKit
set_option maxRecDepth 100000
set_option linter.unusedVariables false
set_option linter.unusedSimpArgs false
set_option maxHeartbeats 4000000

theorem thruL_lt {q : Nat} (hq : 0 < q) (xs ys : List Nat) : ∀ a ∈ thruL q xs ys, a < q := outL_lt hq xs ys _
/-- What Interpolate answers. -/
def intS (q : ByteArray) (xs ys : List ByteArray) (x : ByteArray) : ByteArray × Int :=
  if ptsE q xs ys x = 0 then (B (valL (num q) (num x) (thruL (num q) (xs.map num) (ys.map num))), 0) else (⟨#[]⟩, ptsE q xs ys x)
theorem shamir_Interpolate (q x : ByteArray) (xs ys : List ByteArray) (A A2 : Option Addr) (n n2 c c2 : Nat) (w : World) (hn : xs.length = n) (hn2 : ys.length = n2) (hm : n ≤ 1000) (hm2 : n2 ≤ 1000) (h : SLs w w.heap.size A xs) (h' : SLs w w.heap.size A2 ys) (hT : Tab w) :
    Calls Tryz.prog 17 #[.string q, .slice A n c, .slice A2 n2 c2, .string x] w fun e w' => e = .returned (.tuple #[.string (intS q xs ys x).1, .int .i64 (intS q xs ys x).2]) ∧ Below w.heap.size w w' := by
  have KP := fun w1 (h1 : Below w.heap.size w w1) => shamir_points q x xs ys A A2 n n2 c c2 w1 hn hn2 hm hm2 (h.to h1) (h'.to h1) (hT.below h1)
  obtain ⟨r, hr⟩ : ∃ r, r = intS q xs ys x := ⟨_, rfl⟩
  rw [← hr]
  unfold intS at hr
  obtain ⟨e0, he0⟩ : ∃ e0, e0 = ptsE q xs ys x := ⟨_, rfl⟩
  simp only [← he0] at KP hr
  have KP := Lib.hid KP
  by_cases h0 : e0 = 0
  · subst h0
    rw [if_pos rfl] at hr
    subst hr
    obtain ⟨Q, hQ, hQn, hl, hl256, hx, hy, hxx, htw⟩ := ptsE_zero he0.symm
    clear htw
    have KT := fun w1 (h1 : Below w.heap.size w w1) => shamir_through Q (xs.map num) (ys.map num) A A2 n c c2 w1 hQ.lt hQ.two hx.2 hy.2 (by rw [List.length_map]; exact hn) (by rw [List.length_map]; omega) (by omega) (by rw [← hx.1]; exact h.to h1) (by rw [← hy.1]; exact h'.to h1)
    have KV := fun w1 g (h1 : RowN w1 g (thruL Q (xs.map num) (ys.map num))) => shamir_value Q (num x) (thruL Q (xs.map num) (ys.map num)) (some ⟨g, 0, none⟩) n n w1 hQ.lt (Nat.lt_of_lt_of_le (by decide) hQ.two) (Nat.lt_trans hxx.2 hQ.lt) (thruL_lt (Nat.lt_of_lt_of_le (by decide) hQ.two) _ _) (by rw [thruL_length, List.length_map]; exact hn) (by omega) h1.sls
    rw [← hQ.eq] at KT KV
    have hnn : n2 = n := by omega
    subst hnn
    rw [hQn] at KT KV
    rw [← hxx.1] at KV
    have KT := Lib.hid KT
    have KV := Lib.hid KV
    clear hn hn2 hm hm2 h h' hT he0 hQ hQn hl hl256 hx hy hxx
    go_enter Tryz.func17, Tryz.ntmps17
    go_wp2_with (first
      | (go_at_call 38; (with_reducible refine (KP.out _ (Below.refl _ _)).mono ?_); rintro e w1 ⟨rfl, hb1⟩; have HB1 := Lib.hid hb1; clear hb1)
      | (go_at_call 35; (with_reducible refine (KT.out _ HB1.out).mono ?_); rintro e w2 ⟨rfl, hr2, hb2⟩; have HR2 := Lib.hid hr2; have HB2 := Lib.hid (below2 HB1.out hb2); clear hr2 hb2)
      | (go_at_call 30; (with_reducible refine (KV.out _ _ HR2.out).mono ?_); rintro e w3 ⟨rfl, hb3⟩; have HB3 := Lib.hid (below2 HB2.out hb3); clear hb3))
    go_ret2
    exact ⟨rfl, HB3.out⟩
  · have k0 : (e0 == 0) = false := by rw [beq_eq_false_iff_ne]; exact h0
    rw [if_neg h0] at hr
    subst hr
    clear hn hn2 hm hm2 h h' hT he0 h0
    go_enter Tryz.func17, Tryz.ntmps17
    go_wp2_with (first
      | (go_at_call 38; (with_reducible refine (KP.out _ (Below.refl _ _)).mono ?_); rintro e w1 ⟨rfl, hb1⟩; have HB1 := Lib.hid hb1; clear hb1))
    go_ret2
    exact ⟨rfl, HB1.out⟩

end Go.Proofs.YtapplggboepfaaaGreatDoor

namespace Go.Proofs.YtapplggboepfaaaGreatDoor
open Go.RowKit
set_option maxRecDepth 100000
set_option linter.unusedVariables false
set_option linter.unusedSimpArgs false
set_option maxHeartbeats 4000000

/-! ### slices of ints -/
def ISl (w : World) (b : Nat) (A : Option Addr) (is : List Int) : Prop :=
  is ≠ [] → ∃ ad, A = some ad ∧ ad.block < b ∧ ∀ j, j < is.length → w.cell? (ad.add j) = some (.int .i64 (is.getD j 0))
section
variable {w w' : World} {b b' : Nat} {A : Option Addr} {is : List Int}
theorem ISl.keep (h : ISl w b A is) (hk : ∀ p : Addr, p.block < b → w'.cell? p = w.cell? p) : ISl w' b A is := fun hne => by
  obtain ⟨ad, e, hb, hc⟩ := h hne
  refine ⟨ad, e, hb, fun j hj => (hk _ ?_).trans (hc j hj)⟩
  unfold Addr.add
  split <;> exact hb
theorem ISl.more (h : ISl w b A is) (hb : b ≤ b') : ISl w b' A is := fun hne => by
  obtain ⟨ad, e, h1, hc⟩ := h hne
  exact ⟨ad, e, Nat.lt_of_lt_of_le h1 hb, hc⟩
theorem ISl.below (h : ISl w b A is) (hb : Below b w w') : ISl w' b A is := h.keep fun _ hp => hb.cell hp
theorem ISl.at_ (h : ISl w b A is) {k : Nat} (hk : k < is.length) : ∃ ad, A = some ad ∧ w.cell? (ad.add k) = some (.int .i64 (is.getD k 0)) := by
  obtain ⟨ad, e, _, hc⟩ := h (by intro e; rw [e] at hk; simp at hk)
  exact ⟨ad, e, hc k hk⟩
theorem ISl.nil_ : ISl w b none [] := fun h => absurd rfl h
end
theorem ISl.to {W w' : World} {A : Option Addr} {is : List Int} (h : ISl W W.heap.size A is) (hb : Below W.heap.size W w') : ISl w' w'.heap.size A is := (h.below hb).more hb.size
theorem ISl.drew {W : World} {b : Nat} {A : Option Addr} {is : List Int} (h : ISl W b A is) : ISl W.drew b A is := h
def IOk (z : Int) : Bool := (Lit.int .i64 z).wf

/-! ### sets of ints -/
theorem law_int : Maps.Keyed Tryz.prog 3 := Maps.int_keyed Tryz.underlying3
def IMap (w : World) (b n : Nat) (is : List Int) : Prop :=
  ∃ D : DataW Unit, w.ownsMap Tryz.prog 3 (plainElem Tryz.prog 4) b n D ∧ Maps.IsMap D ∧
    ∀ z : Int, D.atKey (.int .i64 z) (.lit (.bool false)) = .lit (.bool (is.any fun x => x == z))
theorem IMap.made (w : World) : IMap (w.alloc (.map #[] 0)) w.heap.size 0 [] :=
  ⟨.map [], World.ownsMap_made _ _ _ _, Maps.isMap_empty, fun s => rfl⟩
theorem IMap.kept {w w' : World} {b n B : Nat} {is : List Int} (h : IMap w b n is) (hb : Below B w w') (hB : b < B) : IMap w' b n is := by
  obtain ⟨D, ⟨es, clock, h1, h2⟩, hm, ha⟩ := h
  exact ⟨D, ⟨es, clock, (hb.block b hB).trans h1, h2⟩, hm, ha⟩
theorem IMap.lt {w : World} {b n : Nat} {is : List Int} (h : IMap w b n is) : b < w.heap.size := by
  obtain ⟨D, ho, _, _⟩ := h
  exact ho.lt
theorem IMap.snoc {w : World} {b n : Nat} {l : List Int} {s : Int} (h : IMap w b n (s :: l)) : IMap w b n (l ++ [s]) := by
  obtain ⟨D, h1, h2, h3⟩ := h
  refine ⟨D, h1, h2, fun t => ?_⟩
  rw [h3 t, List.any_cons, List.any_append, List.any_cons, List.any_nil, Bool.or_false, Bool.or_comm]
theorem wpList_lookup_iset {ops : Array Oper} {rest : List Oper} {o : Oper} {a : Act} {Q : Exit → Act → World → Prop} (w : World)
    (hg : o.guard = none) (m x : Operand) (t : TypeId) (hop : o.op = Op.lookup t m x false) (ht : Tryz.prog.underlying t = some (.map 3 4))
    (b n : Nat) (is : List Int) (hm : a.eval m = .map (some b)) (hown : IMap w b n is) (s : Int) (hx : a.eval x = .int .i64 s) (hs : IOk s = true)
    (hK : wpList Tryz.prog ops Q rest (a.put o.dst (.bool (is.any fun y => y == s))) w) :
    wpList Tryz.prog ops Q (o :: rest) a w := by
  refine wpList_plain hg fun K' hK' => ?_
  obtain ⟨D, ho, _, ha⟩ := hown
  have hz : (zeroValue 4).run Tryz.prog w = .ok (.bool false) w := by kernel_rfl
  have hkey : keyOf Tryz.prog 3 (.int .i64 s) = some (.int .i64 s) := Maps.keyOf_int_mk Tryz.underlying3 hs
  obtain ⟨v, ps, hrun, hv⟩ := ho.lookup law_int ht hz (plainElem_bool Tryz.underlying4 false) hkey
  rw [ha s] at hv
  have hv2 : v = .bool (is.any fun y => y == s) := by
    unfold plainElem at hv
    rw [Tryz.underlying4] at hv
    cases v <;> simp at hv
    rw [hv.1]
  subst hv2
  unfold Oper.wp
  simp [execOp, hop, hm, hx, hrun, Result.andThen]
  exact hK' _ _ hK
theorem wpList_put_iset {ops : Array Oper} {rest : List Oper} {o : Oper} {a : Act} {Q : Exit → Act → World → Prop} (w : World)
    (hg : o.guard = none) (m x v : Operand) (t : TypeId) (hop : o.op = Op.mapUpdate t m x v) (ht : Tryz.prog.underlying t = some (.map 3 4))
    (b n : Nat) (is : List Int) (hm : a.eval m = .map (some b)) (hown : IMap w b n is) (hn : n ≤ 1000) (s : Int) (hx : a.eval x = .int .i64 s) (hv : a.eval v = .bool true) (hs : IOk s = true)
    (hK : ∀ w', IMap w' b (n + 1) (s :: is) → Below b w w' → w.heap.size ≤ w'.heap.size → wpList Tryz.prog ops Q rest (a.put o.dst undef) w') :
    wpList Tryz.prog ops Q (o :: rest) a w := by
  obtain ⟨D, ho, hm', ha⟩ := hown
  have hlt := ho.lt
  have hkey : keyOf Tryz.prog 3 (.int .i64 s) = some (.int .i64 s) := Maps.keyOf_int_mk Tryz.underlying3 hs
  refine wpList_mapUpdate_own w hg m x v t hop 3 4 law_int ht _ b n D hm ho (by unfold maxLen; omega) _ _ _ hx hv hkey _ [] (plainElem_bool Tryz.underlying4 true) ?_
  intro w' ho' hgr
  refine hK w' ⟨_, ho', hm'.put _ _, fun s' => ?_⟩ ?_ hgr.size
  · rw [List.any_cons]
    by_cases e : s' = s
    · rw [e, Maps.atKey_put_same hm' (law_int.key hkey), beq_self_eq_true, Bool.true_or]
    · rw [Maps.atKey_put_other (by intro h; exact e (by injection h)), ha s', show (s == s') = false from beq_eq_false_iff_ne.2 (fun h => e h.symm), Bool.false_or]
  · exact (Below.refl b w).grown hgr (Nat.le_of_lt hlt) (fun g hg => by injection hg with hg; omega)

/-! ### twice -/
def twiceI : List Int → Bool
  | [] => false
  | x :: l => l.any (fun y => y == x) || twiceI l
theorem twiceI_snoc (l : List Int) (s : Int) : twiceI (l ++ [s]) = (twiceI l || l.any (fun x => x == s)) := by
  induction l with
  | nil => rfl
  | cons u l ih =>
    simp only [List.cons_append, twiceI, List.any_append, List.any_cons, List.any_nil, Bool.or_false, ih]
    have e : (s == u) = (u == s) := Bool.beq_comm
    rw [e]
    cases l.any (fun x => x == u) <;> cases (u == s) <;> cases twiceI l <;> rfl
theorem twiceI_append (a b : List Int) (h : twiceI a = true) : twiceI (a ++ b) = true := by
  induction a with
  | nil => simp [twiceI] at h
  | cons u a ih =>
    simp only [List.cons_append, twiceI, List.any_append, Bool.or_eq_true] at h ⊢
    rcases h with h | h
    · exact .inl (.inl h)
    · exact .inr (ih h)
theorem igetD_lt {L : List Int} {k : Nat} (h : k < L.length) : L.getD k 0 = L[k] := by simp [List.getD, h]
theorem take_snocI (is : List Int) {k : Nat} (h : k < is.length) : is.take (k + 1) = is.take k ++ [is.getD k 0] := by
  rw [List.take_succ_eq_append_getElem h, igetD_lt h]
theorem all_atI {is : List Int} {p : Int → Bool} {k : Nat} (h : is.all p = true) (hk : k < is.length) : p (is.getD k 0) = true := by
  rw [igetD_lt hk]; exact List.all_eq_true.1 h _ (List.getElem_mem hk)
theorem shamir_twiceI (is : List Int) (A : Option Addr) (n c : Nat) (w : World) (hn : is.length = n) (hm : n ≤ 1000) (h : ISl w w.heap.size A is) (hv : is.all IOk = true) :
    Calls Tryz.prog 34 #[.slice A n c] w fun e w' => e = .returned (.bool (twiceI is)) ∧ Below w.heap.size w w' := by
  have HN := Lib.hid hn
  have HS := Lib.hid h
  have HV := Lib.hid hv
  have hmm := @run_makeMap Tryz.prog
  clear hn h hv
  go_enter Tryz.func34, Tryz.ntmps34
  go_wp2
  obtain ⟨G, hG⟩ : ∃ G, w.heap.size = G := ⟨_, rfl⟩
  have HG := Lib.hid hG
  have hs0 : IMap (w.alloc (.map #[] 0)) G 0 [] := by rw [← hG]; exact IMap.made w
  have hb0 : Below G w (w.alloc (.map #[] 0)) := (Below.refl _ _).alloc (by rw [hG]; exact Nat.le_refl _) _
  rw [hG] at HS ⊢
  have HS0 := Lib.hid hs0
  have HB0 := Lib.hid hb0
  clear hG hs0 hb0 hmm
  go_loopw [9] (fun v wr => ∃ k : Nat, v = .int .i64 k ∧ k ≤ n ∧ twiceI (is.take k) = false ∧ IMap wr G k (is.take k) ∧ Below G w wr) (fun v _ => n - (intOf v).toNat)
  case atStart => exact ⟨0, rfl, Nat.zero_le _, by rw [List.take_zero]; rfl, by rw [List.take_zero]; exact HS0.out, HB0.out⟩
  case round =>
    obtain ⟨k, rfl, hk, htw, hset, hbel⟩ := hrel
    have HTW := Lib.hid htw
    have HSET := Lib.hid hset
    have HBEL := Lib.hid hbel
    clear htw hset hbel
    by_cases hlt : k < n
    · obtain ⟨ad, rfl, hc⟩ := (HS.out.below HBEL.out).at_ (k := k) (by rw [HN.out]; exact hlt)
      have hvs := all_atI HV.out (k := k) (by rw [HN.out]; exact hlt)
      have htk := take_snocI is (k := k) (by rw [HN.out]; exact hlt)
      have htl : is = is.take (k + 1) ++ is.drop (k + 1) := (List.take_append_drop _ _).symm
      obtain ⟨x, hx⟩ : ∃ x, is.getD k 0 = x := ⟨_, rfl⟩
      rw [hx] at hc hvs htk
      have HSZ := Lib.hid hvs
      have HTK := Lib.hid htk
      have HTL := Lib.hid htl
      have HLT := Lib.hid hlt
      clear hx hlt htk hvs htl
      cases hb : (is.take k).any (fun y => y == x)
      · have HB := Lib.hid hb
        go_wp2_with (first | (at_lookup; refine wpList_lookup_iset _ rfl _ _ _ rfl Tryz.underlying84 G k _ rfl HSET.out x rfl HSZ.out ?_; rw [hb]) | (at_mapUpdate; refine wpList_put_iset _ rfl _ _ _ _ rfl Tryz.underlying84 G k _ rfl HSET.out (by omega) x rfl rfl HSZ.out ?_; intro w2 hset2 hb2 hz2))
        go_roundw
        case rel => exact ⟨k + 1, by first | rfl | (rw [IntWalk.wrap64_in _ (by omega)]; rfl), HLT.out, by rw [HTK.out, twiceI_snoc, HTW.out, HB.out]; rfl, by rw [HTK.out]; exact hset2.snoc, HBEL.out.trans hb2⟩
        case measure => have := HLT.out; (try rw [IntWalk.wrap64_in _ (by omega)]); simp only [intOf]; omega
      · have HF : Hid (twiceI is = true) := Lib.hid (by rw [HTL.out]; refine twiceI_append _ _ ?_; rw [HTK.out, twiceI_snoc, hb, Bool.or_true])
        have HB := Lib.hid hb
        clear hb
        go_wp2_with (first | (at_lookup; refine wpList_lookup_iset _ rfl _ _ _ rfl Tryz.underlying84 G k _ rfl HSET.out x rfl HSZ.out ?_; rw [HB.out]))
        go_ret
        exact ⟨by rw [HF.out]; rfl, by rw [HG.out]; exact HBEL.out⟩
    · obtain rfl : k = n := by omega
      have HT : Hid (is.take k = is) := Lib.hid (List.take_of_length_le (by rw [HN.out]; exact Nat.le_refl _))
      go_wp2_with fail
      go_ret
      have h1 := HTW.out
      rw [HT.out] at h1
      exact ⟨by rw [h1]; rfl, by rw [HG.out]; exact HBEL.out⟩

end Go.Proofs.YtapplggboepfaaaGreatDoor

namespace Go.Proofs.YtapplggboepfaaaGreatDoor
open Go.RowKit
set_option maxRecDepth 100000
set_option linter.unusedVariables false
set_option linter.unusedSimpArgs false
set_option maxHeartbeats 4000000

def idxP (z : Int) : Bool := decide (1 ≤ z ∧ z ≤ 255)
def idxN (is : List Int) : List Nat := is.map Int.toNat
def idxB (is : List Int) : List ByteArray := (idxN is).map B
def combS (q : ByteArray) (is : List Int) (ys : List ByteArray) : ByteArray × Int :=
  if shE q [ys] = 0 then (if is.length = 0 ∨ is.length ≠ ys.length ∨ 256 < is.length then (⟨#[]⟩, 6) else
    if is.all idxP = true then (if (blwS q (idxB is) && blwS q ys) = true then (if twiceI is = true then (⟨#[]⟩, 8) else (B (valL (num q) 0 (thruL (num q) (idxN is) (ys.map num))), 0)) else (⟨#[]⟩, 2)) else (⟨#[]⟩, 2))
  else (⟨#[]⟩, shE q [ys])
theorem check_oneL (q : ByteArray) (vals : List ByteArray) (A : Option Addr) (n c : Nat) (w : World) (hn : vals.length = n) (hm : n ≤ 1000) (h : SLs w w.heap.size A vals) (hT : Tab w) (T2 : TypeId) :
    Calls Tryz.prog 27 #[.string q, .slice (some ⟨w.heap.size, 0, none⟩) 1 1] (w.alloc (.cells #[.slice A n c] T2)) fun e w' => e = .returned (.int .i64 (shE q [vals])) ∧ Below w.heap.size w w' := by
  have hll := LLs.new w T2 [(A, n, c, vals)] (by
    intro l hl
    rcases List.mem_cons.1 hl with rfl | hl
    · exact ⟨hn, hm, h⟩
    · cases hl)
  refine (shamir_check q _ w.heap.size 1 _ rfl (by decide) hll (hT.alloc _)).mono ?_
  rintro e w' ⟨rfl, hb'⟩
  exact ⟨rfl, below2 ((Below.refl _ _).alloc (Nat.le_refl _) _) hb'⟩
theorem idxP_wf {z : Int} (h : idxP z = true) : IOk z = true := by
  unfold idxP at h; rw [decide_eq_true_eq] at h
  unfold IOk Lit.wf
  obtain ⟨h1, h2⟩ := h
  have a1 : IntKind.i64.min = -9223372036854775808 := by decide
  have a2 : IntKind.i64.max = 9223372036854775807 := by decide
  show (decide (IntKind.i64.min ≤ z) && decide (z ≤ IntKind.i64.max)) = true
  rw [a1, a2, Bool.and_eq_true, decide_eq_true_eq, decide_eq_true_eq]; omega
theorem combine_loop_pos {is : List Int} {k : Nat} (hk : k < is.length) (h : is.all idxP = true) : 1 ≤ is.getD k 0 ∧ is.getD k 0 ≤ 255 := by
  have := all_atI h hk
  unfold idxP at this; rwa [decide_eq_true_eq] at this
theorem idxB_take {is : List Int} {k : Nat} (hk : k < is.length) : idxB (is.take (k + 1)) = idxB (is.take k) ++ [B (is.getD k 0).toNat] := by
  unfold idxB idxN
  rw [take_snocI is hk]; simp
theorem wrapU_small {z : Int} (h : 1 ≤ z ∧ z ≤ 255) : IntKind.u64.wrap z = (z.toNat : Int) := by rw [IntKind.wrap_u64]; omega
theorem all_falseI {is : List Int} {p : Int → Bool} {k : Nat} (hk : k < is.length) (h : p (is.getD k 0) = false) : is.all p = false := by
  rw [igetD_lt hk] at h
  rw [Bool.eq_false_iff]; intro ha
  rw [List.all_eq_true.1 ha _ (List.getElem_mem hk)] at h; cases h

theorem all_of_at {is : List Int} {p : Int → Bool} (h : ∀ j, j < is.length → p (is.getD j 0) = true) : is.all p = true := by
  rw [List.all_eq_true]
  intro x hx
  obtain ⟨j, hj, rfl⟩ := List.mem_iff_getElem.1 hx
  rw [← igetD_lt hj]
  exact h j hj
theorem idxB_num (is : List Int) : (idxB is).map num = idxN is := by
  unfold idxB
  rw [List.map_map]
  refine (List.map_congr_left (fun a _ => ?_)).trans (List.map_id _)
  exact num_B a
theorem idxB_valid {is : List Int} (h : is.all idxP = true) : (idxB is).all valid = true := by
  rw [List.all_eq_true]
  intro x hx
  unfold idxB idxN at hx
  rw [List.map_map, List.mem_map] at hx
  obtain ⟨z, hz, rfl⟩ := hx
  have := List.all_eq_true.1 h z hz
  unfold idxP at this; rw [decide_eq_true_eq] at this
  exact valid_B (k_lim (by omega))
theorem B_zero' : B 0 = ⟨#[]⟩ := by decide
theorem comb_step {w wr w2 : World} {v : Value} {k : Nat} {l : List ByteArray} (hown : OwnS wr w.heap.size v k l) (hbel : Below w.heap.size w wr) (hb2 : Below wr.heap.size wr w2) (x : ByteArray) :
    OwnS (w2.alloc (.cells #[.string x] 25)) w.heap.size v k l ∧ Below w.heap.size w (w2.alloc (.cells #[.string x] 25)) :=
  ⟨OwnS.kept (B := 0) (OwnS.kept (B := 0) hown hb2) ((Below.refl w2.heap.size w2).alloc (Nat.le_refl _) _), (below2 hbel hb2).alloc (below2 hbel hb2).size _⟩
theorem wrapU' {z : Int} (h : Hid (1 ≤ z ∧ z ≤ 255)) (w : World) : Calls Tryz.prog 26 #[.int .u64 (IntKind.u64.wrap z)] w fun e w' => e = .returned (.string (B z.toNat)) ∧ Below w.heap.size w w' :=
  natural_Of' _ z.toNat w (wrapU_small h.out) (by have := h.out; omega)
theorem shamir_Combine (q : ByteArray) (is : List Int) (ys : List ByteArray) (A A2 : Option Addr) (n n2 c c2 : Nat) (w : World) (hn : is.length = n) (hn2 : ys.length = n2) (hm : n ≤ 1000) (hm2 : n2 ≤ 1000) (h : ISl w w.heap.size A is) (h' : SLs w w.heap.size A2 ys) (hT : Tab w) :
    Calls Tryz.prog 12 #[.string q, .slice A n c, .slice A2 n2 c2] w fun e w' => e = .returned (.tuple #[.string (combS q is ys).1, .int .i64 (combS q is ys).2]) ∧ Below w.heap.size w w' := by
  have HCK := Lib.hid (fun T2 => check_oneL q ys A2 n2 c2 w hn2 hm2 h' hT T2)
  obtain ⟨r, hr⟩ : ∃ r, r = combS q is ys := ⟨_, rfl⟩
  rw [← hr]
  unfold combS at hr
  obtain ⟨e0, he0⟩ : ∃ e0, e0 = shE q [ys] := ⟨_, rfl⟩
  rw [← he0] at HCK hr
  by_cases h0 : e0 = 0
  · subst h0
    rw [if_pos rfl, hn, hn2] at hr
    by_cases hl : n = 0 ∨ n ≠ n2 ∨ 256 < n
    · rw [if_pos hl] at hr
      subst hr
      by_cases hz : n = 0
      · subst hz
        clear hn hn2 hm hm2 h h' hT he0 hl
        go_enter Tryz.func12, Tryz.ntmps12
        go_wp2_with (first
          | (go_at_call 27; (with_reducible refine (HCK.out _).mono ?_); rintro e w1 ⟨rfl, hb1⟩; have HB1 := Lib.hid hb1; clear hb1))
        go_ret2
        exact ⟨rfl, HB1.out⟩
      · have kz : ((n : Int) == 0) = false := by simp; omega
        by_cases hne : n = n2
        · have k1 : ((n : Int) != (n2 : Int)) = false := by simp; omega
          have k1' : ((n : Int) == (n2 : Int)) = true := by simp; omega
          have k2 : decide ((256 : Int) < (n : Int)) = true := by rw [decide_eq_true_eq]; omega
          clear hn hn2 hm hm2 h h' hT he0 hl hne hz
          go_enter Tryz.func12, Tryz.ntmps12
          go_wp2_with (first
            | (go_at_call 27; (with_reducible refine (HCK.out _).mono ?_); rintro e w1 ⟨rfl, hb1⟩; have HB1 := Lib.hid hb1; clear hb1))
          go_ret2
          exact ⟨rfl, HB1.out⟩
        · have k1 : ((n : Int) != (n2 : Int)) = true := by simp; omega
          have k1' : ((n : Int) == (n2 : Int)) = false := by simp; omega
          clear hn hn2 hm hm2 h h' hT he0 hl hne hz
          go_enter Tryz.func12, Tryz.ntmps12
          go_wp2_with (first
            | (go_at_call 27; (with_reducible refine (HCK.out _).mono ?_); rintro e w1 ⟨rfl, hb1⟩; have HB1 := Lib.hid hb1; clear hb1))
          go_ret2
          exact ⟨rfl, HB1.out⟩
    · rw [if_neg hl] at hr
      obtain rfl : n = n2 := by omega
      have kz : ((n : Int) == 0) = false := by simp; omega
      have k1 : ((n : Int) != (n : Int)) = false := by simp
      have k1' : ((n : Int) == (n : Int)) = true := by simp
      have k2 : decide ((256 : Int) < (n : Int)) = false := by rw [decide_eq_false_iff_not]; omega
      have hsh := shE_zero he0.symm
      have hQ := isE_zero hsh.2
      have HQ := Lib.hid hQ
      have HV := Lib.hid (hsh.1 ys (by simp))
      have HN := Lib.hid hn
      have HN2 := Lib.hid hn2
      have HS := Lib.hid h
      have HS2 := Lib.hid h'
      have HL := Lib.hid (show n ≤ 256 by omega)
      have HR := Lib.hid hr
      clear hn hn2 hm hm2 h h' hT he0 hl hsh hQ hr
      go_enter Tryz.func12, Tryz.ntmps12
      go_wp2_with (first
        | (go_at_call 27; (with_reducible refine (HCK.out _).mono ?_); rintro e w1 ⟨rfl, hb1⟩; have HB1 := Lib.hid hb1; clear hb1))
      go_loopw [9, 36] (fun v9 v wr => ∃ k : Nat, v = .int .i64 k ∧ k ≤ n ∧ (∀ j, j < k → idxP (is.getD j 0) = true) ∧ OwnS wr w.heap.size v9 k (idxB (is.take k)) ∧ Below w.heap.size w wr) (fun _ v _ => n - (intOf v).toNat)
      case atStart => exact ⟨0, rfl, Nat.zero_le _, fun j hj => absurd hj (Nat.not_lt_zero _), by rw [List.take_zero]; exact OwnS.nil_ _ _, HB1.out⟩
      case round =>
        obtain ⟨k, rfl, hk, hok, hown, hbel⟩ := hrel
        have HOK := Lib.hid hok
        have HOWN := Lib.hid hown
        have HBEL := Lib.hid hbel
        clear hok hown hbel
        by_cases hlt : k < n
        · obtain ⟨ad, rfl, hc⟩ := (HS.out.below HBEL.out).at_ (k := k) (by rw [HN.out]; exact hlt)
          have htk := idxB_take (is := is) (k := k) (by rw [HN.out]; exact hlt)
          have hfa := all_falseI (is := is) (p := idxP) (k := k) (by rw [HN.out]; exact hlt)
          have hnx : idxP (is.getD k 0) = true → ∀ j, j < k + 1 → idxP (is.getD j 0) = true := fun h1 j hj => by
            by_cases e : j = k
            · rw [e]; exact h1
            · exact HOK.out j (by omega)
          obtain ⟨z, hz⟩ : ∃ z, is.getD k 0 = z := ⟨_, rfl⟩
          rw [hz] at hc htk hfa hnx
          have HTK := Lib.hid htk
          have HNX := Lib.hid hnx
          have HLT := Lib.hid hlt
          cases hp : idxP z
          · have HF := Lib.hid (hfa hp)
            have hz2 : ¬ (1 ≤ z ∧ z ≤ 255) := by unfold idxP at hp; rwa [decide_eq_false_iff_not] at hp
            by_cases hz1 : z < 1
            · have p1 : decide (z < 1) = true := decide_eq_true hz1
              clear hz htk hfa hnx hlt hz2 hp hz1
              go_wp2_with fail
              go_ret2
              exact ⟨by rw [HR.out, HF.out]; rfl, HBEL.out⟩
            · have p1 : decide (z < 1) = false := decide_eq_false hz1
              have p2 : decide (255 < z) = true := decide_eq_true (by omega)
              clear hz htk hfa hnx hlt hz2 hp hz1
              go_wp2_with fail
              go_ret2
              exact ⟨by rw [HR.out, HF.out]; rfl, HBEL.out⟩
          · have HP := Lib.hid hp
            have hz2 : 1 ≤ z ∧ z ≤ 255 := by unfold idxP at hp; rwa [decide_eq_true_eq] at hp
            have p1 : decide (z < 1) = false := decide_eq_false (by omega)
            have p2 : decide (255 < z) = false := decide_eq_false (by omega)
            have HZ := Lib.hid hz2
            clear hz htk hfa hnx hlt hz2 hp
            go_wp2_with (first
              | (go_at_call 26; (with_reducible refine (wrapU' HZ _).mono ?_); rintro e w2 ⟨rfl, hb2⟩; have HB2 := Lib.hid hb2; have hcs := comb_step HOWN.out HBEL.out hb2 (B z.toNat); have HOW2 := Lib.hid hcs.1; have HBA := Lib.hid hcs.2; clear hcs hb2)
              | (at_builtin; refine wpList_append_S rfl (.tmp 46) (.tmp 50) rfl w.heap.size _ k _ rfl HOW2.out _ 1 1 [B z.toNat] rfl (sls_one _ _ _) rfl (by have := HL.out; omega) HBA.out.size ?_; intro v5 w5 h1' h2' h3'; rw [← HTK.out] at h1'; have HO5 := Lib.hid h1'; have HB5 := Lib.hid (HBA.out.trans (below_grown h2' HBA.out.size (fun g hg => (HOW2.out.blockOf g hg).1))); clear h1' h2' h3'))
            go_roundw
            case rel => exact ⟨k + 1, stp64 HLT.out (by have := HL.out; omega), HLT.out, HNX.out HP.out, HO5.out, HB5.out⟩
            case measure => exact mes64 HLT.out (by have := HL.out; omega)
        · obtain rfl : k = n := by omega
          obtain ⟨A', c', rfl, hsl⟩ := HOWN.out.form HBEL.out.size
          rw [List.take_of_length_le (by rw [HN.out]; exact Nat.le_refl _)] at hsl
          have hall : is.all idxP = true := all_of_at (fun j hj => HOK.out j (by rw [← HN.out]; exact hj))
          have hr := HR.out
          rw [if_pos hall] at hr
          have hlen : (idxB is).length = k := by unfold idxB idxN; rw [List.length_map, List.length_map]; exact HN.out
          have KB1 := shamir_below q (idxB is) A' k c' wr hlen (by have := HL.out; omega) hsl
          have KB2 := shamir_below q ys A2 k c2 wr HN2.out (by have := HL.out; omega) (HS2.out.to HBEL.out)
          have KT := shamir_twiceI is A k c wr HN.out (by have := HL.out; omega) (HS.out.to HBEL.out) (List.all_eq_true.2 fun x hx => idxP_wf (List.all_eq_true.1 hall x hx))
          obtain ⟨b1, hb1⟩ : ∃ b1, b1 = blwS q (idxB is) := ⟨_, rfl⟩
          obtain ⟨b2, hb2⟩ : ∃ b2, b2 = blwS q ys := ⟨_, rfl⟩
          obtain ⟨tw, htw⟩ : ∃ tw, tw = twiceI is := ⟨_, rfl⟩
          rw [← hb1] at KB1 hr
          rw [← hb2] at KB2 hr
          rw [← htw] at KT hr
          have HSL := Lib.hid hsl
          have HALL := Lib.hid hall
          have HLEN := Lib.hid hlen
          have HB1' := Lib.hid hb1
          have HB2' := Lib.hid hb2
          have KB1 := Lib.hid KB1
          have KB2 := Lib.hid KB2
          have KT := Lib.hid KT
          have HR2 := Lib.hid hr
          clear hlt hk hsl hall hlen hb1 hb2 htw hr HR
          cases b1
          · go_wp2_with (first
              | (go_at_call 28; (with_reducible refine KB1.out.mono ?_); rintro e w2 ⟨rfl, rfl⟩))
            go_ret2
            exact ⟨by rw [HR2.out]; rfl, HBEL.out⟩
          · cases b2
            · go_wp2_with (first
                | (go_at_call 28; (with_reducible refine KB1.out.mono ?_); rintro e w2 ⟨rfl, rfl⟩)
                | (go_at_call 28; (with_reducible refine KB2.out.mono ?_); rintro e w2 ⟨rfl, rfl⟩))
              go_ret2
              exact ⟨by rw [HR2.out]; rfl, HBEL.out⟩
            · cases tw
              · have hx := blw_nums HQ.out (idxB_valid HALL.out) HB1'.out.symm
                have hy := blw_nums HQ.out HV.out HB2'.out.symm
                rw [idxB_num] at hx
                have KH := fun w1 (h1 : Below w.heap.size w w1) (h2 : SLs w1 w1.heap.size A' (idxB is)) => shamir_through (num q) (idxN is) (ys.map num) A' A2 k c' c2 w1 HQ.out.lt HQ.out.two hx.2 hy.2 (by rw [← idxB_num, List.length_map]; exact HLEN.out) (by rw [List.length_map]; exact HN2.out) (by have := HL.out; omega) h2 (by rw [← hy.1]; exact HS2.out.to h1)
                have KV := fun w1 g (h1 : RowN w1 g (thruL (num q) (idxN is) (ys.map num))) => shamir_value (num q) 0 (thruL (num q) (idxN is) (ys.map num)) (some ⟨g, 0, none⟩) k k w1 HQ.out.lt (Nat.lt_of_lt_of_le (by decide) HQ.out.two) (by decide) (thruL_lt (Nat.lt_of_lt_of_le (by decide) HQ.out.two) _ _) (by rw [thruL_length, ← idxB_num, List.length_map]; exact HLEN.out) (by have := HL.out; omega) h1.sls
                rw [← HQ.out.eq] at KH KV
                rw [B_zero'] at KV
                have KH := Lib.hid KH
                have KV := Lib.hid KV
                clear hx hy
                go_wp2_with (first
                  | (go_at_call 28; (with_reducible refine KB1.out.mono ?_); rintro e w2 ⟨rfl, rfl⟩)
                  | (go_at_call 28; (with_reducible refine KB2.out.mono ?_); rintro e w2 ⟨rfl, rfl⟩)
                  | (go_at_call 34; (with_reducible refine KT.out.mono ?_); rintro e w3 ⟨rfl, hb3⟩; have HB3 := Lib.hid (below2 HBEL.out hb3); have HSL3 := Lib.hid (HSL.out.to hb3); clear hb3)
                  | (go_at_call 35; (with_reducible refine (KH.out _ HB3.out HSL3.out).mono ?_); rintro e w4 ⟨rfl, hr4, hb4⟩; have HR4 := Lib.hid hr4; have HB4 := Lib.hid (below2 HB3.out hb4); clear hr4 hb4)
                  | (go_at_call 30; (with_reducible refine (KV.out _ _ HR4.out).mono ?_); rintro e w5 ⟨rfl, hb5⟩; have HB5 := Lib.hid (below2 HB4.out hb5); clear hb5))
                go_ret2
                exact ⟨by rw [HR2.out]; rfl, HB5.out⟩
              · go_wp2_with (first
                  | (go_at_call 28; (with_reducible refine KB1.out.mono ?_); rintro e w2 ⟨rfl, rfl⟩)
                  | (go_at_call 28; (with_reducible refine KB2.out.mono ?_); rintro e w2 ⟨rfl, rfl⟩)
                  | (go_at_call 34; (with_reducible refine KT.out.mono ?_); rintro e w3 ⟨rfl, hb3⟩; have HB3 := Lib.hid (below2 HBEL.out hb3); clear hb3))
                go_ret2
                exact ⟨by rw [HR2.out]; rfl, HB3.out⟩
  · have k0 : (e0 == 0) = false := by rw [beq_eq_false_iff_ne]; exact h0
    rw [if_neg h0] at hr
    subst hr
    clear hn hn2 hm hm2 h h' hT he0 h0
    go_enter Tryz.func12, Tryz.ntmps12
    go_wp2_with (first
      | (go_at_call 27; (with_reducible refine (HCK.out _).mono ?_); rintro e w1 ⟨rfl, hb1⟩; have HB1 := Lib.hid hb1; clear hb1))
    go_ret2
    exact ⟨rfl, HB1.out⟩

end Go.Proofs.YtapplggboepfaaaGreatDoor
