/- TopRevokes: historyStep hands back the members after a step and the values of the accumulator before and behind it. -/
import Derived.Test.YtcpglhjmhegfmaaGreatDoorTrF
import Derived.Deep.RegionHeld3
import Derived.Deep.RegionLaw
namespace Go.Proofs.YtcpglhjmhegfmaaGreatDoor
open Go.RowKit
set_option maxRecDepth 100000
set_option linter.unusedVariables false
set_option maxHeartbeats 4000000

theorem top_step (nm m o z s ku kh : ByteArray) (Ar Am Ac : Option Addr) (nr cr lm cm lc cc ep : Nat) (M C : List ByteArray) (w : World) (hT : Tab w) (sm : m.size ≤ 8) (Z0 Z1 : Nat)
    (hlm : M.length = lm) (hmm : lm ≤ 60) (hsm : SLs w w.heap.size Am M) (hlc : C.length = lc) (hmc : lc ≤ 8) (hsc : SLs w w.heap.size Ac C) (hep : ep < 100)
    (hv0 : valueS m o ku M = (B Z0, 0)) (hv1 : valueS m o ku (nextM M C) = (B Z1, 0)) :
    Calls Tryz.prog 10 #[.agg #[.string nm, .string m, .string o, .string z, .string s, .slice Ar nr cr, .string ku, .string kh], .slice Am lm cm, .slice Ac lc cc, .int .i64 ep] w (StepOut M C Z1 w) := by
  have HSM := Lib.hid hsm
  have HSC := Lib.hid hsc
  have HLM := Lib.hid hlm
  have HLC := Lib.hid hlc
  have HHC := Lib.hid (fun (x : ByteArray) (W : World) b hs => top_has C x Ac lc cc b W hlc (by omega) hs)
  have HHM := Lib.hid (fun (x : ByteArray) (W : World) b hs => top_has M x Am lm cm b W hlm (by omega) hs)
  have HT := Lib.hid hT
  have HS0 := Lib.hid (StpAt.start hT #[.string nm, .string m, .string o, .string z, .string s, .slice Ar nr cr, .string ku, .string kh] (.int .i64 ep) (.int .i64 ((ep : Int) + 1)))
  have hv0' := fun (W : World) hs => acc_Value (.string nm) (.string z) (.string s) (.slice Ar nr cr) (.string kh) m o ku M Am lm cm W sm hlm (by omega) hs
  rw [hv0] at hv0'
  have HV0 := Lib.hid hv0'
  have HV1 := Lib.hid (fun (L : List ByteArray) (hL : L = nextM M C) (h100 : L.length ≤ 100) (A : Option Addr) (c b : Nat) (W : World) (ho : OwnS W b (.slice A L.length c) L.length L) (hb : b ≤ W.heap.size) =>
    step_value (nm := nm) (z := z) (s := s) (kh := kh) (Ar := Ar) (nr := nr) (cr := cr) sm hL hv1 h100 ho hb)
  clear hT hsm hsc hlm hlc hv0 hv1 hv0'
  go_enter Tryz.func10, Tryz.ntmps10
  go_wp2
  go_loopw [12, 13] (fun vn v wr => ∃ (k : Nat) (A' Ar' : Option Addr) (nr' cr' c' : Nat) (Ln Lr : List ByteArray), vn = .slice A' Ln.length c' ∧ v = .int .i64 k ∧ k ≤ lm ∧ Ln = (M.take k).filter (fun x => !(C.any fun y => y.toList == x.toList)) ∧ Lr.length ≤ k ∧
    StpAt w #[.string nm, .string m, .string o, .string z, .string s, .slice Ar nr cr, .string ku, .string kh] (.int .i64 ep) (.int .i64 ((ep : Int) + 1)) (.slice none 0 0) (.slice Ar' nr' cr') (.slice A' Ln.length c') [] Lr Ln wr) (fun _ v _ => lm - (intOf v).toNat)
  case atStart => exact ⟨0, none, none, 0, 0, 0, [], [], rfl, rfl, Nat.zero_le _, by rw [List.take_zero]; rfl, Nat.le_refl _, HS0.out⟩
  case round =>
    obtain ⟨k, A', Ar', nr', cr', c', Ln, Lr, rfl, rfl, hk, hln, hlr, hst⟩ := hrel
    have HLN := Lib.hid hln
    have HLR := Lib.hid hlr
    have HST := Lib.hid hst
    have hz := hst.size
    have hz2 : w.heap.size + 1 + 1 < wr.heap.size := by omega
    have hz3 : ¬ w.heap.size + 1 + 1 = wr.heap.size := by omega
    obtain ⟨d0, d1, d2, d3, d4, d5, d6, d7⟩ := d_cells hst.d
    have HLL := Lib.hid (show Ln.length ≤ k from by rw [hln]; exact Nat.le_trans (List.length_filter_le _ _) (by rw [List.length_take]; omega))
    clear hln hlr hst
    by_cases hlt : k < lm
    · obtain ⟨ad, rfl, hc⟩ := (HST.out.sls HSM.out).at_ (k := k) (by rw [HLM.out]; exact hlt)
      have htk := take_snoc' M (k := k) (by rw [HLM.out]; exact hlt)
      obtain ⟨x, hx⟩ : ∃ x, M.getD k ByteArray.empty = x := ⟨_, rfl⟩
      rw [hx] at hc htk
      have HTK := Lib.hid htk
      have HLT := Lib.hid hlt
      have hh := fun W b hs => HHC.out x W b hs
      clear htk hx
      cases hb : (C.any fun y => y.toList == x.toList)
      · rw [hb] at hh
        have HH := Lib.hid hh
        have HF : Hid ((M.take (k + 1)).filter (fun x => !(C.any fun y => y.toList == x.toList)) = Ln ++ [x]) := Lib.hid (by rw [HTK.out, List.filter_append, ← HLN.out]; simp [hb])
        have HOW := Lib.hid (HST.out.alloc (.cells #[.string x] 22))
        have HY := Lib.hid (SLs.new wr 22 [x] (wr.heap.size + 1) (by omega))
        clear hh hb
        go_wp2_with (first | (go_at_call 16; (with_reducible refine (HH.out _ _ (HST.out.sls HSC.out)).mono ?_); rintro e w' ⟨rfl, rfl⟩) | (at_builtin; refine wpList_append_2 rfl (.tmp 44) (.tmp 49) rfl (w.heap.size + 3) (.slice A' Ln.length c') Ln.length Ln rfl HOW.out.on x _ 1 (wr.heap.size + 1) rfl HY.out (by have := HLL.out; omega) HOW.out.size ?_; intro v5 w5 hown hg hv; have hst5 := HOW.out.addN HT.out hown hg hv; have HV5 := Lib.hid (hst5.on.form (by have := hst5.size; omega)); have HST5 := Lib.hid hst5; clear hown hg hv hst5))
        obtain ⟨A5, c5, rfl, _⟩ := HV5.out
        go_roundw
        case rel => exact ⟨k + 1, A5, Ar', nr', cr', c5, Ln ++ [x], Lr, by simp, rfl, HLT.out, HF.out.symm, Nat.le_succ_of_le HLR.out, by simpa using HST5.out⟩
        case measure => have := HLT.out; simp only [intOf]; omega
      · rw [hb] at hh
        have HH := Lib.hid hh
        have HF : Hid ((M.take (k + 1)).filter (fun x => !(C.any fun y => y.toList == x.toList)) = Ln) := Lib.hid (by rw [HTK.out, List.filter_append, ← HLN.out]; simp [hb])
        clear hh hb
        go_wp2_with (first | (go_at_call 16; (with_reducible refine (HH.out _ _ (HST.out.sls HSC.out)).mono ?_); rintro e w' ⟨rfl, rfl⟩))
        have HOW := Lib.hid (HST.out.alloc (.cells #[.string x] 22))
        have HY := Lib.hid (SLs.new wr 22 [x] (wr.heap.size + 1) (by omega))
        go_region_law (refine step_append_1 rfl (.tmp 36) (.tmp 41) rfl (w.heap.size + 3) (.slice Ar' nr' cr') Lr.length Lr (by simp [Act.eval]) (by first | exact HOW.out.or | exact HOW.out.drew.or) x (some ⟨wr.heap.size, 0, none⟩) 1 (wr.heap.size + 1) (by simp [Act.eval]) (by first | exact HY.out | exact HY.out.drew) (by have := HLR.out; omega) (by first | exact HOW.out.size | exact HOW.out.drew.size) ?_; intro v5 w5 hown hg hv; have hd5 : w5.heap[w.heap.size + 1 + 1]? = some (.cells #[.int .i64 ep, .int .i64 ((ep : Int) + 1), .slice none 0 0, .slice Ar' nr' cr', .string ⟨#[]⟩, .string ⟨#[]⟩, .string ⟨#[]⟩, .string ⟨#[]⟩] 46 (0, 0)) := (by first | exact HOW.out.dBlk hg HOW.out.or | exact HOW.out.drew.dBlk hg HOW.out.drew.or); have q3 := cell_of_row w5 _ 3 _ _ _ hd5; have f3 := frozen_of_row w5 _ 3 _ _ hd5; have HST5 : Hid (StpAt w _ _ _ _ v5 _ _ (Lr ++ [x]) _ (w5.setCell ⟨w.heap.size + 2, 3, none⟩ v5)) := Lib.hid (by first | exact HOW.out.addR HT.out hown hg hv | exact HOW.out.drew.addR HT.out hown hg hv); obtain ⟨A5, c5, rfl, _⟩ := HST5.out.or.form (by have := HST5.out.size; omega); clear hd5 hown hg hv)
        all_goals
          go_wp2_with fail
          go_roundw
          case rel => exact ⟨k + 1, A', A5, _, c5, c', Ln, Lr ++ [x], rfl, rfl, HLT.out, HF.out.symm, by have := HLR.out; simp; omega, by have h := HST5.out; rw [List.length_append] at h; exact h⟩
          case measure => have := HLT.out; simp only [intOf]; omega
    · obtain rfl : k = lm := by omega
      have HLN2 : Hid (Ln = M.filter (fun x => !(C.any fun y => y.toList == x.toList))) := Lib.hid (by rw [HLN.out, List.take_of_length_le (by rw [HLM.out]; exact Nat.le_refl _)])
      clear d0 d1 d2 d3 d4 d5 d6 d7 hz hz2 hz3 hk hlt
      go_wp2_with fail
      go_loopw [12, 14] (fun vn v wq => ∃ (k2 : Nat) (A2 Aa : Option Addr) (na ca c2 : Nat) (Lx La : List ByteArray), vn = .slice A2 Lx.length c2 ∧ v = .int .i64 k2 ∧ k2 ≤ lc ∧ Lx = Ln ++ (C.take k2).filter (fun x => !(M.any fun y => y.toList == x.toList)) ∧ La.length ≤ k2 ∧
        StpAt w #[.string nm, .string m, .string o, .string z, .string s, .slice Ar nr cr, .string ku, .string kh] (.int .i64 ep) (.int .i64 ((ep : Int) + 1)) (.slice Aa na ca) (.slice Ar' nr' cr') (.slice A2 Lx.length c2) La Lr Lx wq) (fun _ v _ => lc - (intOf v).toNat)
      case atStart => exact ⟨0, A', none, 0, 0, c', Ln, [], rfl, rfl, Nat.zero_le _, by rw [List.take_zero]; simp, Nat.le_refl _, HST.out⟩
      case round =>
        obtain ⟨k2, A2, Aa, na, ca, c2, Lx, La, rfl, rfl, hk2, hlx, hla, hst⟩ := hrel
        have HLX := Lib.hid hlx
        have HLA := Lib.hid hla
        have HS2 := Lib.hid hst
        have hz := hst.size
        have hz2 : w.heap.size + 1 + 1 < wr.heap.size := by omega
        have hz3 : ¬ w.heap.size + 1 + 1 = wr.heap.size := by omega
        obtain ⟨d0, d1, d2, d3, d4, d5, d6, d7⟩ := d_cells hst.d
        have HLL2 := Lib.hid (show Lx.length ≤ 100 from by
          have h1 := HLL.out
          have h2 := List.length_filter_le (fun x => !(M.any fun y => y.toList == x.toList)) (C.take k2)
          have h3 : (C.take k2).length ≤ k2 := by rw [List.length_take]; omega
          rw [hlx, List.length_append]; omega)
        clear hlx hla hst
        by_cases hlt : k2 < lc
        · obtain ⟨ad, rfl, hc⟩ := (HS2.out.sls HSC.out).at_ (k := k2) (by rw [HLC.out]; exact hlt)
          have htk := take_snoc' C (k := k2) (by rw [HLC.out]; exact hlt)
          obtain ⟨x, hx⟩ : ∃ x, C.getD k2 ByteArray.empty = x := ⟨_, rfl⟩
          rw [hx] at hc htk
          have HTK := Lib.hid htk
          have HLT := Lib.hid hlt
          have hadl : (ad.add k2).block < w.heap.size := by
            obtain ⟨ad', e, hb, _⟩ := HSC.out (by intro e; have := HLC.out; rw [e] at this; simp at this; have := HLT.out; omega)
            injection e with e
            subst e
            unfold Addr.add
            split <;> exact hb
          have HCE := Lib.hid (show ∀ w', BT w w' → w'.cell? (ad.add k2) = some (.string x) from fun w' hk' => by
            have e1 := hk'.bel.cell hadl
            have e2 := HS2.out.bt.bel.cell hadl
            rw [e1, ← e2]; exact hc)
          clear hadl
          have hh := fun W b hs => HHM.out x W b hs
          clear htk hx
          cases hb : (M.any fun y => y.toList == x.toList)
          · rw [hb] at hh
            have HH := Lib.hid hh
            have HF : Hid (Ln ++ (C.take (k2 + 1)).filter (fun x => !(M.any fun y => y.toList == x.toList)) = Lx ++ [x]) := Lib.hid (by rw [HTK.out, List.filter_append, ← List.append_assoc, ← HLX.out]; simp [hb])
            clear hh hb
            go_wp2_with (first | (go_at_call 16; (with_reducible refine (HH.out _ _ (HS2.out.sls HSM.out)).mono ?_); rintro e w' ⟨rfl, rfl⟩))
            have HOW := Lib.hid (HS2.out.alloc (.cells #[.string x] 22))
            have HY := Lib.hid (SLs.new wr 22 [x] (wr.heap.size + 1) (by omega))
            go_region_law (refine step_append_1 rfl (.tmp 65) (.tmp 70) rfl (w.heap.size + 3) (.slice Aa na ca) La.length La (by simp [Act.eval]) (by first | exact HOW.out.oa | exact HOW.out.drew.oa) x (some ⟨wr.heap.size, 0, none⟩) 1 (wr.heap.size + 1) (by simp [Act.eval]) (by first | exact HY.out | exact HY.out.drew) (by have := HLA.out; omega) (by first | exact HOW.out.size | exact HOW.out.drew.size) ?_; intro v5 w5 hown hg hv; have hd5 : w5.heap[w.heap.size + 1 + 1]? = some (.cells #[.int .i64 ep, .int .i64 ((ep : Int) + 1), .slice Aa na ca, .slice Ar' nr' cr', .string ⟨#[]⟩, .string ⟨#[]⟩, .string ⟨#[]⟩, .string ⟨#[]⟩] 46 (0, 0)) := (by first | exact HOW.out.dBlk hg HOW.out.oa | exact HOW.out.drew.dBlk hg HOW.out.drew.oa); have q3 := cell_of_row w5 _ 2 _ _ _ hd5; have f3 := frozen_of_row w5 _ 2 _ _ hd5; obtain ⟨n5, hn5⟩ : ∃ n5 : StpAt w _ _ _ v5 _ _ (La ++ [x]) _ _ (w5.setCell ⟨w.heap.size + 1 + 1, 2, none⟩ v5), True := (by first | exact ⟨HOW.out.addA HT.out hown hg hv, trivial⟩ | exact ⟨HOW.out.drew.addA HT.out hown hg hv, trivial⟩); obtain ⟨A5, c5, rfl, _⟩ := n5.oa.form (by have := n5.size; omega); simp only [List.length_append, List.length_singleton] at n5; have hc5 := HCE.out _ n5.bt; have HST6 := Lib.hid (n5.alloc (.cells #[.string x] 22)); have HY6 := Lib.hid (SLs.newAt (w5.setCell ⟨w.heap.size + 1 + 1, 2, none⟩ (.slice A5 (La.length + 1) c5)) 22 [x] w5.heap.size (by simp)); clear hd5 hown hg hv n5 hn5)
            all_goals
              go_wp2_with (at_builtin; refine wpList_append_2 rfl (.tmp 73) (.tmp 78) rfl (w.heap.size + 3) (.slice A2 Lx.length c2) Lx.length Lx rfl HST6.out.on x _ 1 _ rfl HY6.out (by have := HLL2.out; omega) HST6.out.size ?_; intro v7 w7 hown hg hv; have hst7 := HST6.out.addN HT.out hown hg hv; have HV7 := Lib.hid (hst7.on.form (by have := hst7.size; omega)); have HST7 := Lib.hid hst7; clear hown hg hv hst7)
              obtain ⟨A7, c7, rfl, _⟩ := HV7.out
              go_roundw
              case rel => exact ⟨k2 + 1, A7, A5, _, c5, c7, Lx ++ [x], La ++ [x], by simp, rfl, HLT.out, HF.out.symm, by have := HLA.out; simp; omega, by simpa using HST7.out⟩
              case measure => have := HLT.out; simp only [intOf]; omega
          · rw [hb] at hh
            have HH := Lib.hid hh
            have HF : Hid (Ln ++ (C.take (k2 + 1)).filter (fun x => !(M.any fun y => y.toList == x.toList)) = Lx) := Lib.hid (by rw [HTK.out, List.filter_append, ← List.append_assoc, ← HLX.out]; simp [hb])
            clear hh hb
            go_wp2_with (first | (go_at_call 16; (with_reducible refine (HH.out _ _ (HS2.out.sls HSM.out)).mono ?_); rintro e w' ⟨rfl, rfl⟩))
            go_roundw
            case rel => exact ⟨k2 + 1, A2, Aa, na, ca, c2, Lx, La, rfl, rfl, HLT.out, HF.out.symm, Nat.le_succ_of_le HLA.out, HS2.out⟩
            case measure => have := HLT.out; simp only [intOf]; omega
        · obtain rfl : k2 = lc := by omega
          have HNX : Hid (Lx = nextM M C) := Lib.hid (by rw [HLX.out, HLN2.out, List.take_of_length_le (by rw [HLC.out]; exact Nat.le_refl _)]; rfl)
          have HLA100 := Lib.hid (show La.length ≤ 100 from by have := HLA.out; omega)
          have HLR100 := Lib.hid (show Lr.length ≤ 100 from by have := HLR.out; omega)
          have HSA := Lib.hid (fun W (h : StpAt w #[.string nm, .string m, .string o, .string z, .string s, .slice Ar nr cr, .string ku, .string kh] (.int .i64 ep) (.int .i64 ((ep : Int) + 1)) (.slice Aa na ca) (.slice Ar' nr' cr') (.slice A2 Lx.length c2) La Lr Lx W) => sorted_a h HLA100.out)
          have HSR := Lib.hid (fun W (h : StpAt w #[.string nm, .string m, .string o, .string z, .string s, .slice Ar nr cr, .string ku, .string kh] (.int .i64 ep) (.int .i64 ((ep : Int) + 1)) (.slice Aa na ca) (.slice Ar' nr' cr') (.slice A2 Lx.length c2) La Lr Lx W) => sorted_r h HLR100.out)
          clear hk2 hlt
          have f2 := frozen_of_row wr _ 2 _ _ HS2.out.d
          have f3 := frozen_of_row wr _ 3 _ _ HS2.out.d
          go_wp2_with fail
          go_region_with (first
            | (go_at_call 20; (first | (with_reducible refine (HSA.out _ HS2.out).mono ?_) | (with_reducible refine (HSA.out _ HS2.out.drew).mono ?_) | (with_reducible refine (HSA.out _ HR4.out).mono ?_)); rintro e w4 ⟨⟨A4, n4, c4, rfl⟩, hb4⟩; have m4 : StpAt w #[.string nm, .string m, .string o, .string z, .string s, .slice Ar nr cr, .string ku, .string kh] (.int .i64 ep) (.int .i64 ((ep : Int) + 1)) (.slice Aa na ca) (.slice Ar' nr' cr') (.slice A2 Lx.length c2) La Lr Lx w4 := by { first | exact HR4.out.next hb4 | exact HS2.out.next hb4 | exact HS2.out.drew.next hb4 }; obtain ⟨_, _, a2, a3, _, _, _, _⟩ := d_cells m4.d; have g2 := frozen_of_row w4 _ 2 _ _ m4.d; have g3 := frozen_of_row w4 _ 3 _ _ m4.d; have HA4 := Lib.hid m4; clear m4 hb4)
            | (go_at_call 20; (first | (with_reducible refine (HSR.out _ HS2.out).mono ?_) | (with_reducible refine (HSR.out _ HS2.out.drew).mono ?_) | (with_reducible refine (HSR.out _ HA4.out).mono ?_)); rintro e w5 ⟨⟨A5, n5, c5, rfl⟩, hb5⟩; have m5 : StpAt w #[.string nm, .string m, .string o, .string z, .string s, .slice Ar nr cr, .string ku, .string kh] (.int .i64 ep) (.int .i64 ((ep : Int) + 1)) (.slice Aa na ca) (.slice Ar' nr' cr') (.slice A2 Lx.length c2) La Lr Lx w5 := by { first | exact HA4.out.next hb5 | exact HS2.out.next hb5 | exact HS2.out.drew.next hb5 }; obtain ⟨_, _, b2, b3, _, _, _, _⟩ := d_cells m5.d; have h2 := frozen_of_row w5 _ 2 _ _ m5.d; have h3 := frozen_of_row w5 _ 3 _ _ m5.d; have HR4 := Lib.hid m5; clear m5 hb5))
          all_goals
            have HB6 := Lib.hid (HR4.out.toB HT.out (.slice A4 n4 c4) (.slice A5 n5 c5))
            generalize ((w5.setCell ⟨w.heap.size + 1 + 1, 2, none⟩ (.slice A4 n4 c4)).setCell ⟨w.heap.size + 1 + 1, 3, none⟩ (.slice A5 n5 c5)) = W6 at HB6 ⊢
            clear a2 a3 g2 g3 b2 b3 h2 h3 f2 f3 d0 d1 d2 d3 d4 d5 d6 d7 hz hz2 hz3 HA4 HR4
            obtain ⟨y0, y1, y2, y3, y4, y5, y6, y7⟩ := d_cells HB6.out.kb
            go_wp2_with (first
              | (go_at_call 8; (with_reducible refine (HV0.out _ (HB6.out.sls HSM.out)).mono ?_); rintro e w8 ⟨rfl, hb8⟩; have m8 := HB6.out.next hb8; obtain ⟨z0, z1, z2, z3, z4, z5, z6, z7⟩ := d_cells m8.kb; have H8 := Lib.hid m8; clear m8 hb8)
              | (go_at_call 8; (with_reducible refine (HV1.out Lx HNX.out HLL2.out _ _ _ _ H8.out.on H8.out.size).mono ?_); rintro e w9 ⟨rfl, hb9⟩; have m9 := H8.out.next hb9; obtain ⟨t0, t1, t2, t3, t4, t5, t6, t7⟩ := d_cells m9.d; have g4 := frozen_of_row w9 _ 4 _ _ m9.d; have g5 := frozen_of_row w9 _ 5 _ _ m9.d; have H9 := Lib.hid m9; clear m9 hb9))
            have HB10 := Lib.hid (H9.out.put45 HT.out (.string (B Z0)) (.string (B Z1)))
            generalize ((w9.setCell ⟨w.heap.size + 1 + 1, 4, none⟩ (.string (B Z0))).setCell ⟨w.heap.size + 1 + 1, 5, none⟩ (.string (B Z1))) = W10 at HB10 ⊢
            clear y0 y1 y2 y3 y4 y5 y6 y7 z0 z1 z2 z3 z4 z5 z6 z7 t0 t1 t2 t3 t4 t5 t6 t7 g4 g5 H8 H9 HB6 HSA HSR HV0 HV1
            obtain ⟨y0, y1, y2, y3, y4, y5, y6, y7⟩ := d_cells HB10.out.d
            obtain ⟨z0, z1, z2, z3, z4, z5, z6, z7⟩ := d_cells HB10.out.res
            have g0 := frozen_of_row W10 _ 0 _ _ HB10.out.res
            have g1 := frozen_of_row W10 _ 1 _ _ HB10.out.res
            have g2 := frozen_of_row W10 _ 2 _ _ HB10.out.res
            have g3 := frozen_of_row W10 _ 3 _ _ HB10.out.res
            have g4 := frozen_of_row W10 _ 4 _ _ HB10.out.res
            have g5 := frozen_of_row W10 _ 5 _ _ HB10.out.res
            have g6 := frozen_of_row W10 _ 6 _ _ HB10.out.res
            have g7 := frozen_of_row W10 _ 7 _ _ HB10.out.res
            go_region
            go_wp2_with fail
            refine bodyPost_ret (v := .tuple #[.slice A2 Lx.length c2, .agg #[.int .i64 ep, .int .i64 ((ep : Int) + 1), .slice A4 n4 c4, .slice A5 n5 c5, .string (B Z0), .string (B Z1), .string ⟨#[]⟩, .string ⟨#[]⟩], .bool true]) (by simp [results, Tryz.results10, go_sem, z0, z1, z2, z3, z4, z5, z6, z7]) rfl ?_
            have hend := ((((((((((EndAt.mk HB10.out.on HB10.out.bt HB10.out.size).put HT.out 0 (.int .i64 ep)).put HT.out 1 (.int .i64 ((ep : Int) + 1))).put HT.out 2 (.slice A4 n4 c4)).put HT.out 3 (.slice A5 n5 c5)).put HT.out 4 (.string (B Z0))).put HT.out 5 (.string (B Z1))).put HT.out 6 (.string ⟨#[]⟩)).put HT.out 7 (.string ⟨#[]⟩)).drew).fin
            rw [HNX.out] at hend
            exact step_out hend (by rw [HNX.out])

end Go.Proofs.YtcpglhjmhegfmaaGreatDoor
