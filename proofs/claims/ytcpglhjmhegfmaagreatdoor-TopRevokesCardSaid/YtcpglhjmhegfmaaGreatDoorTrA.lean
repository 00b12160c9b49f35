/- TopRevokes: historyHas tells whether a number lies in a list; historyHandles says true only of different small primes that do not divide the order. -/
import Derived.Test.YtcpglhjmhegfmaaGreatDoorTvTc
import Derived.Deep.RegionHeld3
namespace Go.Proofs.YtcpglhjmhegfmaaGreatDoor
open Go.RowKit
set_option maxRecDepth 100000
set_option linter.unusedVariables false
set_option maxHeartbeats 4000000

theorem SLs.take {w : World} {b : Nat} {A : Option Addr} {ls : List ByteArray} (h : SLs w b A ls) (k : Nat) : SLs w b A (ls.take k) := fun hne => by
  obtain ⟨ad, e, h1, h2⟩ := h (by intro e; rw [e] at hne; simp at hne)
  refine ⟨ad, e, h1, fun j hj => ?_⟩
  have hj' : j < ls.length := by rw [List.length_take] at hj; omega
  rw [h2 j hj', sgetD_lt hj', sgetD_lt hj, List.getElem_take]
theorem SLs.drewN {w : World} {b : Nat} {A : Option Addr} {ls : List ByteArray} (h : SLs w b A ls) (n : Nat) : SLs (w.drewN n) b A ls := h
/-- What a walk keeps of the world at its call. -/
structure BT (w wx : World) : Prop where
  bel : Below w.heap.size w wx
  tab : Tab wx
theorem BT.next {w wx w' : World} (h : BT w wx) (hb : Below wx.heap.size wx w') : BT w w' := ⟨below2 h.bel hb, h.tab.below hb⟩
theorem BT.drewN {w wx : World} (h : BT w wx) (n : Nat) : BT w (wx.drewN n) := h.next (below_drewN (Below.refl _ _) n)
theorem BT.drew {w wx : World} (h : BT w wx) : BT w wx.drew := h.next (Below.refl _ _).drew
theorem BT.alloc {w wx : World} (h : BT w wx) (o : Obj) : BT w (wx.alloc o) := h.next ((Below.refl _ _).alloc (Nat.le_refl _) _)
theorem BT.sls {w wx : World} {A : Option Addr} {ls : List ByteArray} (h : BT w wx) (hs : SLs w w.heap.size A ls) : SLs wx w.heap.size A ls := hs.below h.bel
theorem BT.refl {w : World} (hT : Tab w) : BT w w := ⟨Below.refl _ _, hT⟩

theorem top_has (ls : List ByteArray) (x : ByteArray) (A : Option Addr) (n c b : Nat) (w : World) (hn : ls.length = n) (hm : n ≤ 1000) (h : SLs w b A ls) :
    Calls Tryz.prog 16 #[.slice A n c, .string x] w fun e w' => e = .returned (.bool (ls.any fun y => y.toList == x.toList)) ∧ w = w' := by
  have HN := Lib.hid hn
  have HS := Lib.hid h
  clear hn h
  go_enter Tryz.func16, Tryz.ntmps16
  go_wp2
  go_loop [5] (fun c => ∃ k : Nat, k ≤ n ∧ c = .int .i64 k ∧ ∀ j, j < k → ((ls.getD j ByteArray.empty).toList == x.toList) = false) (fun c => n - (intOf c).toNat)
  case atStart => exact ⟨0, by omega, rfl, fun j h => absurd h (by omega)⟩
  case round =>
    obtain ⟨k, hk, rfl, hall⟩ := hrel
    have HA := Lib.hid hall
    clear hall
    by_cases hlt : k < n
    · obtain ⟨ad, rfl, hc⟩ := HS.out.at_ (k := k) (by rw [HN.out]; exact hlt)
      obtain ⟨s, hs⟩ : ∃ s, ls.getD k ByteArray.empty = s := ⟨_, rfl⟩
      rw [hs] at hc
      have HSS := Lib.hid hs
      clear hs
      cases hv : (s.toList == x.toList)
      · have HV := Lib.hid hv
        go_wp2
        go_round
        case rel => exact ⟨k + 1, by omega, by go_num, fun j hj => by
          by_cases e : j = k
          · subst e; rw [HSS.out]; exact HV.out
          · exact HA.out j (by omega)⟩
        case measure => simp [intOf]; omega
      · have HF : Hid ((ls.any fun y => y.toList == x.toList) = true) := Lib.hid (any_at' (k := k) (by rw [HN.out]; exact hlt) (by rw [HSS.out]; exact hv))
        go_wp2
        go_ret
        exact ⟨ret_bool HF.out.symm, rfl⟩
    · obtain rfl : k = n := by omega
      have HF : Hid ((ls.any fun y => y.toList == x.toList) = false) := Lib.hid (any_none' (fun j hj => HA.out j (by rw [HN.out] at hj; exact hj)))
      go_wp2
      go_ret
      exact ⟨ret_bool HF.out.symm, rfl⟩

theorem order_valid {p q : ByteArray} (ho : (orderS p q).2 = 0) : valid (orderS p q).1 = true := by
  unfold orderS at ho ⊢
  split at ho
  · split at ho
    · rename_i h1 h2
      rw [if_pos h1, if_pos h2]
      unfold natMul fitted at ho ⊢
      split at ho
      · rename_i h3
        rw [if_pos h3]
        split at ho
        · rename_i h4
          rw [if_pos h4]
          exact valid_B h4
        · cases ho
      · cases ho
    · rename_i h1 h2
      exact absurd ho h2
  · cases ho
theorem small_of {x : ByteArray} {v : Nat} (h : natSmall x = (v, true)) : valid x = true ∧ num x = v ∧ v < 18446744073709551616 ∧ isPS x = (isS v, 0) := by
  unfold natSmall at h
  split at h
  · rename_i hv
    simp only [Bool.and_eq_true, decide_eq_true_eq] at hv
    simp only [Prod.mk.injEq, and_true] at h
    have hs := smallS_lt x
    have e : smallS x = (num x, 0) := by unfold smallS; rw [if_pos hv.1, if_pos hv.2]
    rw [e] at hs
    refine ⟨hv.1, h, by rw [← h]; exact hs, ?_⟩
    unfold isPS
    rw [e, h]
    simp
  · simp at h
/-- What historyHandles says. -/
def HandOut (p q : ByteArray) (ls : List ByteArray) (w : World) (e : Ending) (w' : World) : Prop :=
  ∃ b, e = .returned (.bool b) ∧ (b = true → (orderS p q).2 = 0 ∧ ls.length ≤ 8 ∧ HH (num (orderS p q).1) ls) ∧ Below w.heap.size w w' ∧ Tab w'
theorem HandOut.no {p q : ByteArray} {ls : List ByteArray} {w w' : World} {e : Ending} (h : e = .returned (.bool false)) (hb : BT w w') : HandOut p q ls w e w' :=
  ⟨false, h, (fun h => by cases h), hb.bel, hb.tab⟩
theorem hh_upto {d : Nat} {ls : List ByteArray} {n : Nat} (hn : ls.length = n) (h1 : ∀ j, j < n → Hdl d (ls.getD j ByteArray.empty)) (h2 : twiceB ls = false) : HH d ls :=
  ⟨fun u hu => by
    obtain ⟨i, hi, rfl⟩ := List.getElem_of_mem hu
    have := h1 i (by omega)
    rwa [sgetD_lt hi] at this, h2⟩

theorem top_handles (p q : ByteArray) (ls : List ByteArray) (A : Option Addr) (n c : Nat) (w : World) (hT : Tab w) (hn : ls.length = n) (hm : n ≤ maxLen) (hnc : n ≤ c) (h : SLs w w.heap.size A ls) :
    Calls Tryz.prog 15 #[.agg #[.string p, .string q], .slice A n c] w (HandOut p q ls w) := by
  have HN := Lib.hid hn
  have HS := Lib.hid h
  have HB0 := Lib.hid ((BT.refl hT).alloc (.cells #[.string p, .string q] 29))
  have hor := fun w (hT : Tab w) => rsagroup_Order p q w hT
  obtain ⟨om, hom⟩ : ∃ om, (orderS p q).1 = om := ⟨_, rfl⟩
  obtain ⟨oe, hoe⟩ : ∃ oe, (orderS p q).2 = oe := ⟨_, rfl⟩
  rw [hom, hoe] at hor
  have HOR := Lib.hid hor
  by_cases h8 : n ≤ 8
  · have k8 : decide ((8 : Int) < (n : Int)) = false := decide_eq_false (by omega)
    by_cases he : oe = 0
    · subst he
      have hvo := order_valid hoe
      rw [hom] at hvo
      obtain ⟨D, hD, rfl⟩ := (valid_iff om).1 hvo
      have HOM : Hid (num (orderS p q).1 = D) := Lib.hid (by rw [hom, num_B])
      have HOE := Lib.hid hoe
      have HM := Lib.hid h8
      have HD := Lib.hid hD
      clear hT hn hm h hor hom hoe h8 hvo hD
      go_enter Tryz.func15, Tryz.ntmps15
      go_wp2_with (first | (go_at_call 25; (with_reducible refine (HOR.out _ HB0.out.tab).mono ?_); rintro e w1 ⟨rfl, hb1⟩; have HB1 := Lib.hid (HB0.out.next hb1); clear hb1))
      go_loopw [7] (fun v wr => ∃ k : Nat, v = .int .i64 k ∧ k ≤ n ∧ (∀ j, j < k → Hdl D (ls.getD j ByteArray.empty)) ∧ twiceB (ls.take k) = false ∧ BT w wr) (fun v _ => n - (intOf v).toNat)
      case atStart => exact ⟨0, rfl, Nat.zero_le _, fun j h => absurd h (Nat.not_lt_zero _), by rw [List.take_zero]; rfl, HB1.out⟩
      case round =>
        obtain ⟨k, rfl, hk, hall, htw, hbt⟩ := hrel
        have HA := Lib.hid hall
        have HTW := Lib.hid htw
        have HB := Lib.hid hbt
        clear hall htw hbt
        by_cases hlt : k < n
        · obtain ⟨ad, rfl, hc⟩ := (HB.out.sls HS.out).at_ (k := k) (by rw [HN.out]; exact hlt)
          have htk := take_snoc' ls (k := k) (by rw [HN.out]; exact hlt)
          obtain ⟨x, hx⟩ : ∃ x, ls.getD k ByteArray.empty = x := ⟨_, rfl⟩
          rw [hx] at hc htk
          have hadl : (ad.add k).block < w.heap.size := by
            obtain ⟨ad', e, hb, _⟩ := HS.out (by intro e; have := HN.out; rw [e] at this; simp at this; omega)
            injection e with e
            subst e
            unfold Addr.add
            split <;> exact hb
          have HC := Lib.hid (show ∀ w', BT w w' → w'.cell? (ad.add k) = some (.string x) from fun w' hk' => by
            have e1 := hk'.bel.cell hadl
            have e2 := HB.out.bel.cell hadl
            rw [e1, ← e2]; exact hc)
          have HTK := Lib.hid htk
          have HX := Lib.hid hx
          have HLT := Lib.hid hlt
          have hkc : k ≤ c := by have := HM.out; omega
          have hn8 : n ≤ 8 := HM.out
          have hsm := fun w => natural_Small x w
          have hip := fun w (hT : Tab w) => prime_Is x w hT
          have HHAS := Lib.hid (fun W hs => top_has (ls.take k) x (some ad) k c w.heap.size W (by rw [List.length_take, HN.out]; omega) (by have := HM.out; omega) hs)
          have HTAKE := Lib.hid (fun W (h : BT w W) => (h.sls HS.out).take k)
          clear hx htk hadl
          obtain ⟨v, hv⟩ : ∃ v, (natSmall x).1 = v := ⟨_, rfl⟩
          obtain ⟨ok, hok⟩ : ∃ ok, (natSmall x).2 = ok := ⟨_, rfl⟩
          rw [hv, hok] at hsm
          have HSM := Lib.hid hsm
          clear hsm
          cases ok
          · have HIP := Lib.hid hip
            clear hip hv hok
            go_wp2_with (first | (go_at_call 4; (with_reducible refine (HSM.out _).mono ?_); rintro e w' ⟨rfl, rfl⟩) | (go_at_call 26; (with_reducible refine (HIP.out _ HB.out.tab).mono ?_); rintro e w2 ⟨rfl, hb2⟩; have HB3 := Lib.hid (HB.out.next hb2); have hc3 := HC.out _ HB3.out; clear hb2))
            go_quiet (fail)
            go_wp2_with fail
            go_ret
            exact HandOut.no rfl (HB3.out.drewN _)
          have hso := small_of (x := x) (v := v) (by rw [← hv, ← hok])
          obtain ⟨hvx, hnx, h64, hips⟩ := hso
          simp only [hips] at hip
          clear hips hv hok
          have HVX := Lib.hid (And.intro hvx (And.intro hnx h64))
          by_cases h3 : v < 3
          · have k3 : decide ((v : Int) < 3) = true := decide_eq_true (by omega)
            have HIP := Lib.hid hip
            clear hip h3 hnx hvx h64
            go_wp2_with (first | (go_at_call 4; (with_reducible refine (HSM.out _).mono ?_); rintro e w' ⟨rfl, rfl⟩) | (go_at_call 26; (with_reducible refine (HIP.out _ HB.out.tab).mono ?_); rintro e w2 ⟨rfl, hb2⟩; have HB3 := Lib.hid (HB.out.next hb2); have hc3 := HC.out _ HB3.out; clear hb2))
            go_quiet (fail)
            go_wp2_with fail
            go_ret
            exact HandOut.no rfl (HB3.out.drewN _)
          have k3 : decide ((v : Int) < 3) = false := decide_eq_false (by omega)
          have H3 := Lib.hid h3
          by_cases h16 : 65536 ≤ v
          · have k16 : decide ((65536 : Int) ≤ (v : Int)) = true := decide_eq_true (by omega)
            have HIP := Lib.hid hip
            clear hip h3 h16 hnx hvx h64
            go_wp2_with (first | (go_at_call 4; (with_reducible refine (HSM.out _).mono ?_); rintro e w' ⟨rfl, rfl⟩) | (go_at_call 26; (with_reducible refine (HIP.out _ HB.out.tab).mono ?_); rintro e w2 ⟨rfl, hb2⟩; have HB3 := Lib.hid (HB.out.next hb2); have hc3 := HC.out _ HB3.out; clear hb2))
            go_quiet (fail)
            go_wp2_with fail
            go_ret
            exact HandOut.no rfl (HB3.out.drewN _)
          have k16 : decide ((65536 : Int) ≤ (v : Int)) = false := decide_eq_false (by omega)
          have H16 := Lib.hid h16
          obtain ⟨ip, hi⟩ : ∃ ip, isS v = ip := ⟨_, rfl⟩
          rw [hi] at hip
          have HIP := Lib.hid hip
          clear hip h3 h16 hnx hvx h64
          cases ip
          · clear hi
            go_wp2_with (first | (go_at_call 4; (with_reducible refine (HSM.out _).mono ?_); rintro e w' ⟨rfl, rfl⟩) | (go_at_call 26; (with_reducible refine (HIP.out _ HB.out.tab).mono ?_); rintro e w2 ⟨rfl, hb2⟩; have HB3 := Lib.hid (HB.out.next hb2); have hc3 := HC.out _ HB3.out; clear hb2))
            go_quiet (fail)
            go_wp2_with fail
            go_ret
            exact HandOut.no rfl (HB3.out.drewN _)
          have HI := Lib.hid hi
          clear hi
          obtain ⟨hs, hh⟩ : ∃ hs, (ls.take k).any (fun y => y.toList == x.toList) = hs := ⟨_, rfl⟩
          have hhas := HHAS.out
          rw [hh] at hhas
          have HHS := Lib.hid hhas
          have HH2 := Lib.hid hh
          clear hhas hh HHAS
          cases hs
          · have hdv := fun w => natural_DivModA D v w HD.out (by have := HVX.out.2.2; exact u64_lt_lim this) (by have := H3.out; omega)
            have hxv : x = B v := by have := B_num HVX.out.1; rw [HVX.out.2.1] at this; exact this.symm
            rw [← hxv] at hdv
            by_cases h0 : D % v = 0
            · rw [h0] at hdv
              have HDV := Lib.hid hdv
              have kE : (B 0).toList.isEmpty = true := B_isEmpty_true
              clear hdv h0 hxv
              go_wp2_with (first | (go_at_call 4; (with_reducible refine (HSM.out _).mono ?_); rintro e w' ⟨rfl, rfl⟩) | (go_at_call 26; (with_reducible refine (HIP.out _ HB.out.tab).mono ?_); rintro e w2 ⟨rfl, hb2⟩; have HB3 := Lib.hid (HB.out.next hb2); have hc3 := HC.out _ HB3.out; clear hb2))
              go_quiet ((go_at_call 16; exact quiet_of_eq (HHS.out _ (HTAKE.out _ (HB3.out.drewN _)))))
              have HB4 := Lib.hid (fun n => HB3.out.drewN n)
              go_wp2_with (first | (go_at_call 27; (with_reducible refine (HDV.out _).mono ?_); rintro e w3 ⟨rfl, hb3⟩; have HB5 := Lib.hid ((HB4.out _).next hb3); clear hb3))
              go_ret
              exact HandOut.no rfl HB5.out
            · obtain ⟨R, hR⟩ : ∃ R, D % v = R := ⟨_, rfl⟩
              rw [hR] at hdv
              have HR0 : Hid (D % v ≠ 0) := Lib.hid h0
              have HDV := Lib.hid hdv
              have kE : (B R).toList.isEmpty = false := B_isEmpty_false (by rw [← hR]; exact h0)
              clear hdv h0 hxv hR
              go_wp2_with (first | (go_at_call 4; (with_reducible refine (HSM.out _).mono ?_); rintro e w' ⟨rfl, rfl⟩) | (go_at_call 26; (with_reducible refine (HIP.out _ HB.out.tab).mono ?_); rintro e w2 ⟨rfl, hb2⟩; have HB3 := Lib.hid (HB.out.next hb2); have hc3 := HC.out _ HB3.out; clear hb2))
              go_quiet ((go_at_call 16; exact quiet_of_eq (HHS.out _ (HTAKE.out _ (HB3.out.drewN _)))))
              have HB4 := Lib.hid (fun n => HB3.out.drewN n)
              go_wp2_with (first | (go_at_call 27; (with_reducible refine (HDV.out _).mono ?_); rintro e w3 ⟨rfl, hb3⟩; have HB5 := Lib.hid ((HB4.out _).next hb3); clear hb3))
              go_roundw
              case rel => exact ⟨k + 1, rfl, HLT.out, fun j hj => by
                by_cases e : j = k
                · subst e
                  rw [HX.out]
                  refine ⟨HVX.out.1, ?_, ?_, ?_, ?_⟩ <;> rw [HVX.out.2.1]
                  · have := H3.out; omega
                  · have := H16.out; omega
                  · exact HI.out
                  · exact HR0.out
                · exact HA.out j (by omega), by rw [HTK.out, twiceB_snoc, HTW.out, HH2.out]; rfl, HB5.out⟩
              case measure => have := HLT.out; simp only [intOf]; omega
          · go_wp2_with (first | (go_at_call 4; (with_reducible refine (HSM.out _).mono ?_); rintro e w' ⟨rfl, rfl⟩) | (go_at_call 26; (with_reducible refine (HIP.out _ HB.out.tab).mono ?_); rintro e w2 ⟨rfl, hb2⟩; have HB3 := Lib.hid (HB.out.next hb2); have hc3 := HC.out _ HB3.out; clear hb2))
            go_quiet ((go_at_call 16; exact quiet_of_eq (HHS.out _ (HTAKE.out _ (HB3.out.drewN _)))))
            go_wp2_with fail
            go_ret
            exact HandOut.no rfl (HB3.out.drewN _)
        · obtain rfl : k = n := by omega
          have HT : Hid (ls.take k = ls) := Lib.hid (List.take_of_length_le (by rw [HN.out]; exact Nat.le_refl _))
          go_wp2_with fail
          go_ret
          have h2 := HTW.out
          rw [HT.out] at h2
          exact ⟨true, rfl, fun _ => ⟨HOE.out, by rw [HN.out]; exact HM.out, by rw [HOM.out]; exact hh_upto HN.out HA.out h2⟩, HB.out.bel, HB.out.tab⟩
    · have ke : (oe != 0) = true := by rw [bne_iff_ne]; exact he
      clear hT hn hm h hor hom hoe h8 he
      go_enter Tryz.func15, Tryz.ntmps15
      go_wp2_with (first | (go_at_call 25; (with_reducible refine (HOR.out _ HB0.out.tab).mono ?_); rintro e w1 ⟨rfl, hb1⟩; have HB1 := Lib.hid (HB0.out.next hb1); clear hb1))
      go_ret
      exact HandOut.no rfl HB1.out
  · have k8 : decide ((8 : Int) < (n : Int)) = true := decide_eq_true (by omega)
    by_cases he : oe = 0
    · subst he
      clear hT hn hm h hor hom hoe h8
      go_enter Tryz.func15, Tryz.ntmps15
      go_wp2_with (first | (go_at_call 25; (with_reducible refine (HOR.out _ HB0.out.tab).mono ?_); rintro e w1 ⟨rfl, hb1⟩; have HB1 := Lib.hid (HB0.out.next hb1); clear hb1))
      go_ret
      exact HandOut.no rfl HB1.out
    · have ke : (oe != 0) = true := by rw [bne_iff_ne]; exact he
      clear hT hn hm h hor hom hoe h8 he
      go_enter Tryz.func15, Tryz.ntmps15
      go_wp2_with (first | (go_at_call 25; (with_reducible refine (HOR.out _ HB0.out.tab).mono ?_); rintro e w1 ⟨rfl, hb1⟩; have HB1 := Lib.hid (HB0.out.next hb1); clear hb1))
      go_ret
      exact HandOut.no rfl HB1.out

end Go.Proofs.YtcpglhjmhegfmaaGreatDoor
