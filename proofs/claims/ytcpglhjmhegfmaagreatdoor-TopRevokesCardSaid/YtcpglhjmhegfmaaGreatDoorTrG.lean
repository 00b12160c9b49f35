/- The law TopRevokes: it returns true. -/
import Derived.Test.YtcpglhjmhegfmaaGreatDoorTrH
import Derived.Deep.DeepCutAuto
import Derived.Deep.CutBlock
namespace Go.Proofs.YtcpglhjmhegfmaaGreatDoor
open Go.RowKit
set_option maxRecDepth 100000
set_option linter.unusedVariables false
set_option maxHeartbeats 8000000

theorem v19d : valueS ⟨#[77]⟩ ⟨#[]⟩ ⟨#[4]⟩ [⟨#[7]⟩, ⟨#[11]⟩] = (⟨#[16]⟩, 0) := by decide +kernel
theorem top_awake (w : World) : Calls Tryz.prog 6 #[] w fun e w' => e = .returned (.bool true) ∧ Below w.heap.size w w' := by
  have HS := Lib.hid (SLs.new w 22 [⟨#[7]⟩, ⟨#[11]⟩] (w.heap.size + 1) (by omega))
  have hv := fun (W : World) hs => acc_Value (.string ⟨#[]⟩) (.string ⟨#[]⟩) (.string ⟨#[]⟩) (.slice none 0 0) (.string ⟨#[]⟩) ⟨#[77]⟩ ⟨#[]⟩ ⟨#[4]⟩ [⟨#[7]⟩, ⟨#[11]⟩] (some ⟨w.heap.size, 0, none⟩) 2 2 W (by decide) rfl (by decide) hs
  rw [v19d] at hv
  have HV := Lib.hid hv
  have HB := Lib.hid (show Below w.heap.size w (w.alloc (.cells #[.string ⟨#[7]⟩, .string ⟨#[11]⟩] 22)) from (Below.refl _ _).alloc (Nat.le_refl _) _)
  clear hv
  go_enter Tryz.func6, Tryz.ntmps6
  go_wp2_with (go_at_call 8; (with_reducible refine (HV.out _ (by simpa using HS.out)).mono ?_); rintro e w1 ⟨rfl, hb1⟩; have HB1 := Lib.hid (below2 HB.out hb1); clear hb1)
  go_ret
  exact ⟨rfl, HB1.out⟩
theorem valT_at {K : Array Value} {A : Option Addr} {n c Z : Nat} {m o ku : ByteArray} {M : List ByteArray} {W : World} (h : Calls Tryz.prog 8 #[.agg K, .slice A n c] W fun e w' => e = .returned (.tuple #[.string (valueS m o ku M).1, .int .i64 (valueS m o ku M).2]) ∧ Below W.heap.size W w') (hv : valueS m o ku M = (B Z, 0)) :
    Calls Tryz.prog 8 #[.agg K, .slice A n c] W fun e w' => e = .returned (.tuple #[.string (B Z), .int .i64 0]) ∧ Below W.heap.size W w' := by
  rw [hv] at h
  exact h
theorem chkT_at {K : Array Value} {a b c : ByteArray} {x y : Int} {W : World} (h : Calls Tryz.prog 9 #[.agg K, .string a, .string b, .string c] W fun e w' => e = .returned (.int .i64 x) ∧ Below W.heap.size W w') (hv : x = y) :
    Calls Tryz.prog 9 #[.agg K, .string a, .string b, .string c] W fun e w' => e = .returned (.int .i64 y) ∧ Below W.heap.size W w' := by
  rw [hv] at h
  exact h
theorem CLs.more {w : World} {b b' : Nat} {A : Option Addr} {Cs : List (List ByteArray)} (h : CLs w b A Cs) (hb : b ≤ b') : CLs w b' A Cs := fun hne => by
  obtain ⟨ad, e, h1, h2⟩ := h hne
  refine ⟨ad, e, by omega, fun j hj => ?_⟩
  obtain ⟨Aj, nj, cj, a, b', c, d, f⟩ := h2 j hj
  exact ⟨Aj, nj, cj, a, b', c, d, f.more hb⟩
theorem HisBox.cls {w wx : World} {CC : Array Value} {A : Option Addr} {Cs : List (List ByteArray)} (h : HisBox w CC wx) (hs : CLs w w.heap.size A Cs) : CLs wx wx.heap.size A Cs := (hs.below h.bt.bel).more h.bt.bel.size
/-- What the law counts. -/
def uniqS (m o p q acc u : ByteArray) (k : Nat) : Bool := decide (1 ≤ k) && (decide ((isSquareS m o p q (B k)).2 = 0) && ((isSquareS m o p q (B k)).1 && decide (checkAS m o acc u (B k) = 0)))
theorem HRdy.count {m o p q ku u : ByteArray} {ms : List ByteArray} {Cs : List (List ByteArray)} (h : HRdy m o p q ku u ms Cs) (hn : num m ≤ 500) (M : List ByteArray) :
    cntP (uniqS m o p q (B (raiseN (num m) M (num ku))) u) (num m) = 1 := by
  obtain ⟨w0, h1, h2, h3⟩ := h.one hn M
  refine cntP_one h2 (fun k hk => ?_)
  unfold uniqS
  simp only [Bool.and_eq_true, decide_eq_true_eq]
  constructor
  · rintro ⟨a, b, c, d⟩
    exact (h3 k a hk).1 ⟨b, c, d⟩
  · rintro rfl
    have := (h3 k h1 hk).2 rfl
    exact ⟨h1, this.1, this.2.1, this.2.2⟩
theorem law_revokes (nm m o z s ku kh p q U : ByteArray) (Ar Am Ac : Option Addr) (nr cr lm cm lc cc : Nat) (rs ms : List ByteArray) (Cs : List (List ByteArray)) (w : World) (hT : Tab w)
    (hnr : rs.length = nr) (hmr : nr ≤ maxLen) (hsr : SLs w w.heap.size Ar rs) (hnm : ms.length = lm) (hmm : lm ≤ maxLen) (hcm : lm ≤ cm) (hsm : SLs w w.heap.size Am ms)
    (hnc : Cs.length = lc) (hsc : CLs w w.heap.size Ac Cs) :
    Calls Tryz.prog 3 #[.agg #[.string nm, .string m, .string o, .string z, .string s, .slice Ar nr cr, .string ku, .string kh, .string p, .string q, .slice Am lm cm, .string U, .slice Ac lc cc]] w fun e w' => e = .returned (.bool true) ∧ Below w.heap.size w w' := by
  have HB := Lib.hid (HisBox.box (CC := #[.string nm, .string m, .string o, .string z, .string s, .slice Ar nr cr, .string ku, .string kh, .string p, .string q, .slice Am lm cm, .string U, .slice Ac lc cc]) hT)
  have HT := Lib.hid hT
  have HSM := Lib.hid hsm
  have HSC := Lib.hid hsc
  have HNC := Lib.hid hnc
  have HNM := Lib.hid hnm
  have HRD := Lib.hid (fun W (hb : HisBox w #[.string nm, .string m, .string o, .string z, .string s, .slice Ar nr cr, .string ku, .string kh, .string p, .string q, .slice Am lm cm, .string U, .slice Ac lc cc] W) => top_ready nm m o z s ku kh p q U Ar Am Ac nr cr lm cm lc cc rs ms Cs W hb.bt.tab hnr hmr (hb.sls hsr) hnm hmm hcm (hb.sls hsm) hnc (hb.cls hsc))
  have hsmall := fun W => natural_Small m W
  have hso : ∀ v, natSmall m = (v, true) → num m = v := fun v h => (small_of h).2.1
  obtain ⟨sv, hsv⟩ : ∃ sv, natSmall m = sv := ⟨_, rfl⟩
  rw [hsv] at hsmall hso
  obtain ⟨N, ok⟩ := sv
  have HSMA := Lib.hid hsmall
  have HSO := Lib.hid hso
  obtain ⟨y0, y1, y2, y3, y4, y5, y6, y7, y8, y9, y10, y11, y12⟩ := HB.out.all
  clear hT hnr hmr hsr hnm hmm hcm hsm hnc hsc hsmall hso hsv
  cases ok
  · go_enter Tryz.func3, Tryz.ntmps3
    go_wp2_with (first | (go_at_call 4; (with_reducible refine (HSMA.out _).mono ?_); rintro e w' ⟨rfl, rfl⟩) | (go_at_call 6; (with_reducible refine (top_awake _).mono ?_); rintro e wz ⟨rfl, hbz⟩))
    go_ret
    exact ⟨rfl, below2 HB.out.bt.bel hbz⟩
  by_cases h500 : N ≤ 500
  rotate_left
  · have k5 : decide ((500 : Int) < (N : Int)) = true := decide_eq_true (by omega)
    clear h500
    go_enter Tryz.func3, Tryz.ntmps3
    go_wp2_with (first | (go_at_call 4; (with_reducible refine (HSMA.out _).mono ?_); rintro e w' ⟨rfl, rfl⟩) | (go_at_call 6; (with_reducible refine (top_awake _).mono ?_); rintro e wz ⟨rfl, hbz⟩))
    go_ret
    exact ⟨rfl, below2 HB.out.bt.bel hbz⟩
  have k5 : decide ((500 : Int) < (N : Int)) = false := decide_eq_false (by omega)
  have HNN := Lib.hid (HSO.out N rfl)
  have H500 := Lib.hid h500
  clear h500 HSO
  go_enter Tryz.func3, Tryz.ntmps3
  go_wp2_with (first | (go_at_call 4; (with_reducible refine (HSMA.out _).mono ?_); rintro e w' ⟨rfl, rfl⟩) | (go_at_call 5; (with_reducible refine (HRD.out _ HB.out).mono ?_); rintro e w1 ⟨b, rfl, hi, hb1, ht1⟩; have n1 := HB.out.next hb1; obtain ⟨x0, x1, x2, x3, x4, x5, x6, x7, x8, x9, x10, x11, x12⟩ := n1.all; have H1 := Lib.hid n1; have HI := Lib.hid hi; clear hb1 ht1 n1 hi; cases b) | (go_at_call 6; (with_reducible refine (top_awake _).mono ?_); rintro e wz ⟨rfl, hbz⟩))
  · go_ret
    exact ⟨rfl, below2 H1.out.bt.bel hbz⟩
  have hr := HI.out (by trivial)
  obtain ⟨Wn, Z, hw, hv, hM⟩ := hr.start
  have sm := hr.sm
  have hwi := fun (W : World) hs => acc_Witness (.string nm) (.string z) (.string s) (.slice Ar nr cr) (.string kh) m o ku U ms Am lm cm W sm HNM.out (by rw [← HNM.out]; have := hr.hml; omega) hs
  rw [hw] at hwi
  have HWI := Lib.hid hwi
  have HVA := Lib.hid (fun (M : List ByteArray) (hHH : HH (num (orderS p q).1) M) (A : Option Addr) (n c : Nat) (W : World) (hn : M.length = n) (h100 : n ≤ 100) hs =>
    valT_at (Z := raiseN (num m) M (num ku)) (acc_Value (.string nm) (.string z) (.string s) (.slice Ar nr cr) (.string kh) m o ku M A n c W sm hn (by omega) hs) (hM M hHH).1)
  have HCH := Lib.hid (fun (M : List ByteArray) (hHH : HH (num (orderS p q).1) M) (W : World) =>
    chkT_at (acc_Check (.string nm) (.string z) (.string s) (.slice Ar nr cr) (.string kh) m o ku (B (raiseN (num m) M (num ku))) U (B Wn) W sm) (hM M hHH).2.1)
  have HZ := Lib.hid (hM ms hr.hms).2.2
  have HCS := Lib.hid hr.hcs
  have HMS := Lib.hid hr.hms
  have HML := Lib.hid hr.hml
  have HCL := Lib.hid hr.hcl
  have HCNT := Lib.hid (hr.count (by rw [HNN.out]; exact H500.out))
  have HVM := Lib.hid (fun (M : List ByteArray) (hHH : HH (num (orderS p q).1) M) => (hM M hHH).1)
  have hva0 := fun W hs => HVA.out ms HMS.out Am lm cm W HNM.out (by rw [← HNM.out]; have := hr.hml; omega) hs
  have hch0 := fun W => HCH.out ms HMS.out W
  rw [HZ.out] at hva0 hch0
  rw [if_pos rfl] at hch0
  have HVA0 := Lib.hid hva0
  have HCH0 := Lib.hid hch0
  clear hwi hr hw hv hM hva0 hch0 HI
  go_wp2_with (first | (go_at_call 7; (with_reducible refine (HWI.out _ (H1.out.sls HSM.out)).mono ?_); rintro e w2 ⟨rfl, hb2⟩; have n2 := H1.out.next hb2; obtain ⟨q2_0, q2_1, q2_2, q2_3, q2_4, q2_5, q2_6, q2_7, q2_8, q2_9, q2_10, q2_11, q2_12⟩ := n2.all; have H2 := Lib.hid n2; clear n2 hb2) | (go_at_call 8; (with_reducible refine (HVA0.out _ (H2.out.sls HSM.out)).mono ?_); rintro e w3 ⟨rfl, hb3⟩; have n3 := H2.out.next hb3; obtain ⟨q3_0, q3_1, q3_2, q3_3, q3_4, q3_5, q3_6, q3_7, q3_8, q3_9, q3_10, q3_11, q3_12⟩ := n3.all; have H3 := Lib.hid n3; clear n3 hb3) | (go_at_call 9; (with_reducible refine (HCH0.out _).mono ?_); rintro e w4 ⟨rfl, hb4⟩; have n4 := H3.out.next hb4; obtain ⟨q4_0, q4_1, q4_2, q4_3, q4_4, q4_5, q4_6, q4_7, q4_8, q4_9, q4_10, q4_11, q4_12⟩ := n4.all; have H4 := Lib.hid n4; clear n4 hb4))
  go_loopw [9, 10] (fun v9 v10 wr => ∃ (k n c : Nat) (A : Option Addr) (M : List ByteArray), v9 = .slice A n c ∧ v10 = .int .i64 k ∧ k ≤ lc ∧ M.length = n ∧ n ≤ 8 + 8 * k ∧ HH (num (orderS p q).1) M ∧ SLs wr wr.heap.size A M ∧ HisBox w #[.string nm, .string m, .string o, .string z, .string s, .slice Ar nr cr, .string ku, .string kh, .string p, .string q, .slice Am lm cm, .string U, .slice Ac lc cc] wr) (fun _ v10 _ => lc - (intOf v10).toNat)
  case atStart => exact ⟨0, lm, cm, Am, ms, rfl, rfl, Nat.zero_le _, HNM.out, by rw [← HNM.out]; exact HML.out, HMS.out, H4.out.sls HSM.out, H4.out⟩
  case round =>
    obtain ⟨k, n, c, A, M, rfl, rfl, hk, hMn, hn8, hHH, hsl, hbx⟩ := hrel
    have HMN := Lib.hid hMn
    have HHM := Lib.hid hHH
    have HSL := Lib.hid hsl
    have K0 := Lib.hid hbx
    have HLC6 := Lib.hid (show lc ≤ 6 from by rw [← HNC.out]; exact HCL.out)
    have HN8 := Lib.hid hn8
    obtain ⟨u0, u1, u2, u3, u4, u5, u6, u7, u8, u9, u10, u11, u12⟩ := hbx.all
    clear hMn hHH hsl hbx hn8
    by_cases hlt : k < lc
    · obtain ⟨ad, rfl, hab, hcs⟩ := (HSC.out.below K0.out.bt.bel) (by intro e; have := HNC.out; rw [e] at this; simp at this; omega)
      obtain ⟨Aj, nj, cj, hc, hnj, hmj, hcj, hsj⟩ := hcs k (by rw [HNC.out]; exact hlt)
      have hCc := HCS.out (Cs.getD k []) (by rw [cgetD_lt (by rw [HNC.out]; exact hlt)]; exact List.getElem_mem _)
      obtain ⟨Cj, hCj⟩ : ∃ Cj, Cs.getD k [] = Cj := ⟨_, rfl⟩
      rw [hCj] at hnj hsj hCc
      have hnx := HHM.out.next hCc.1
      have HNX := Lib.hid hnx
      have hnl := nextM_length M Cj
      obtain ⟨Z1, hZ1⟩ : ∃ Z1, raiseN (num m) (nextM M Cj) (num ku) = Z1 := ⟨_, rfl⟩
      have hvm := HVM.out (nextM M Cj) hnx
      rw [hZ1] at hvm
      have hck := HCH.out (nextM M Cj) hnx
      rw [hZ1] at hck
      have HCK := Lib.hid hck
      have HLT := Lib.hid hlt
      have HC6 := HLC6.out
      have HSTP := Lib.hid (fun (W : World) hT hs1 hs2 => top_step nm m o z s ku kh Ar A Aj nr cr n c nj cj k M Cj W hT sm (raiseN (num m) M (num ku)) Z1 HMN.out (by have := HN8.out; omega) hs1 hnj (by rw [← hnj]; exact hCc.2) hs2 (by omega) (HVM.out M HHM.out) hvm)
      have HNL := Lib.hid (show (nextM M Cj).length ≤ 8 + 8 * (k + 1) from by rw [HMN.out] at hnl; have := HN8.out; have := hCc.2; omega)
      have HSJ := Lib.hid hsj
      have HCE := Lib.hid (show ∀ w', BT w w' → w'.cell? (ad.add k) = some (.slice Aj nj cj) from fun w' hk' => by
        have hadl : (ad.add k).block < w.heap.size := by unfold Addr.add; split <;> exact hab
        have e1 := hk'.bel.cell hadl
        have e2 := K0.out.bt.bel.cell hadl
        rw [e1, ← e2]; exact hc)
      have hi6 : (k : Int) < (lc : Int) := by omega
      clear hck hnx hnl hvm hnj hmj hcj hsj hcs hCj hab hCc
      have hba := (Below.refl wr.heap.size wr).alloc (Nat.le_refl _) (.cells #[.int .i64 0, .int .i64 0, .slice none 0 0, .slice none 0 0, .string ⟨#[]⟩, .string ⟨#[]⟩, .string ⟨#[]⟩, .string ⟨#[]⟩] 46)
      have hsj2 := HSJ.out.more K0.out.bt.bel.size
      have HC1 := Lib.hid (HSTP.out wr.drew K0.out.drew.bt.tab HSL.out.drew (K0.out.drew.sls' HSJ.out.drew))
      have HC2 := Lib.hid (HSTP.out wr K0.out.bt.tab HSL.out hsj2)
      have HC3 := Lib.hid (HSTP.out (wr.alloc (.cells #[.int .i64 0, .int .i64 0, .slice none 0 0, .slice none 0 0, .string ⟨#[]⟩, .string ⟨#[]⟩, .string ⟨#[]⟩, .string ⟨#[]⟩] 46)).drew (K0.out.alloc _).drew.bt.tab (HSL.out.to hba).drew (hsj2.to hba).drew)
      have HC4 := Lib.hid (HSTP.out (wr.alloc (.cells #[.int .i64 0, .int .i64 0, .slice none 0 0, .slice none 0 0, .string ⟨#[]⟩, .string ⟨#[]⟩, .string ⟨#[]⟩, .string ⟨#[]⟩] 46)) (K0.out.alloc _).bt.tab (HSL.out.to hba) (hsj2.to hba))
      clear hba hsj2
      go_upto_region 12 with fail
      go_cut [11, 12, 13] (fun a b d wx => d = .bool true ∧ ∃ (A' : Option Addr) (n' c' g : Nat), a = .slice A' n' c' ∧ b = .pointer (some ⟨g, 0, none⟩) ∧ (nextM M Cj).length = n' ∧ DAt w #[.string nm, .string m, .string o, .string z, .string s, .slice Ar nr cr, .string ku, .string kh, .string p, .string q, .slice Am lm cm, .string U, .slice (some ad) lc cc] g Z1 A' (nextM M Cj) wx)
      case first =>
        go_region_held3 (fun w' => w'.cell? ⟨w.heap.size, 0, none⟩ = some (.string nm) ∧ w'.cell? ⟨w.heap.size, 1, none⟩ = some (.string m) ∧ w'.cell? ⟨w.heap.size, 2, none⟩ = some (.string o) ∧ w'.cell? ⟨w.heap.size, 3, none⟩ = some (.string z) ∧ w'.cell? ⟨w.heap.size, 4, none⟩ = some (.string s) ∧ w'.cell? ⟨w.heap.size, 5, none⟩ = some (.slice Ar nr cr) ∧ w'.cell? ⟨w.heap.size, 6, none⟩ = some (.string ku) ∧ w'.cell? ⟨w.heap.size, 7, none⟩ = some (.string kh) ∧ w'.cell? ⟨w.heap.size, 12, none⟩ = some (.slice (some ad) lc cc) ∧ w'.cell? (ad.add k) = some (.slice Aj nj cj)) (first | go_keep | exact S_of HCE.out (K5.out.put8 HT.out K0.out.size _ _ _ _ _ _ _ _) | exact S_of HCE.out ((K5.out.alloc _).put8 HT.out K5.out.size _ _ _ _ _ _ _ _) | exact S_of HCE.out (K5.out.alloc _) | exact S_of HCE.out (K5.out.drew.alloc _)) (first
          | (go_at_call 10; (first | (with_reducible refine HC1.out.mono ?_) | (with_reducible refine HC2.out.mono ?_) | (with_reducible refine HC3.out.mono ?_) | (with_reducible refine HC4.out.mono ?_)); rintro e w5 ⟨A', Aa', Ar', n', c', na', ca', nr', cr', i0, i1, b', rfl, hnl, hsl', hfr, hb5, ht5⟩; have n5 : HisBox w #[.string nm, .string m, .string o, .string z, .string s, .slice Ar nr cr, .string ku, .string kh, .string p, .string q, .slice Am lm cm, .string U, .slice (some ad) lc cc] w5 := (by first | exact K0.out.next hb5 | exact K0.out.drew.next hb5 | exact (K0.out.alloc _).next hb5 | exact (K0.out.alloc _).drew.next hb5); have hce5 := HCE.out _ n5.bt; obtain ⟨v0, v1, v2, v3, v4, v5, v6, v7, v8, v9, v10, v11, v12⟩ := n5.all; have hcw5 := (bcell hb5).1; have hfw5 := (bcell hb5).2; have hs5 := hb5.size; have HNL5 := Lib.hid hnl; have HSL5 := Lib.hid hsl'; have HFR5 := Lib.hid hfr; have K5 := Lib.hid n5; have HB5 := Lib.hid hb5; clear hnl hsl' hfr hb5 ht5 n5))
        all_goals
          go_wp2_with fail
          go_meet
          first
            | with_reducible exact ⟨rfl, A', n', c', _, rfl, rfl, HNL5.out, DAt.new K5.out HSL5.out⟩
            | with_reducible exact ⟨rfl, A', n', c', _, rfl, rfl, HNL5.out, (DAt.new K5.out HSL5.out).drew⟩
            | with_reducible exact ⟨rfl, A', n', c', _, rfl, rfl, HNL5.out, DAt.old HT.out K0.out K5.out (.inl rfl) HB5.out HSL5.out HFR5.out⟩
            | with_reducible exact ⟨rfl, A', n', c', _, rfl, rfl, HNL5.out, DAt.old HT.out K0.out K5.out (.inr rfl) HB5.out HSL5.out HFR5.out⟩
      case rest =>
        obtain ⟨rfl, A', n', c', g, rfl, rfl, hnl, hd⟩ := hcut
        have HNL' := Lib.hid hnl
        have HD := Lib.hid hd
        clear u0 u1 u2 u3 u4 u5 u6 u7 u8 u9 u10 u11 u12
        obtain ⟨u0, u1, u2, u3, u4, u5, u6, u7, u8, u9, u10, u11, u12⟩ := hd.his.all
        have hc5 := hd.c5
        have hck := HCK.out
        clear hnl hd HCK
        by_cases hz : Z1 = Z
        all_goals
          first
            | rw [if_pos hz] at hck; have kE : ((B Z1).toList == (B Z).toList) = true := (by rw [hz]; simp)
            | rw [if_neg hz] at hck; have kE : ((B Z1).toList == (B Z).toList) = false := (by rw [beq_eq_false_iff_ne]; intro e; exact hz (B_inj (toList_inj (by rw [e]; simp))))
          have HCK2 := Lib.hid hck
          clear hck hz
          go_wp2_with fail
          go_region_held3 (fun w' => w'.cell? ⟨w.heap.size, 0, none⟩ = some (.string nm) ∧ w'.cell? ⟨w.heap.size, 1, none⟩ = some (.string m) ∧ w'.cell? ⟨w.heap.size, 2, none⟩ = some (.string o) ∧ w'.cell? ⟨w.heap.size, 3, none⟩ = some (.string z) ∧ w'.cell? ⟨w.heap.size, 4, none⟩ = some (.string s) ∧ w'.cell? ⟨w.heap.size, 5, none⟩ = some (.slice Ar nr cr) ∧ w'.cell? ⟨w.heap.size, 6, none⟩ = some (.string ku) ∧ w'.cell? ⟨w.heap.size, 7, none⟩ = some (.string kh) ∧ w'.cell? ⟨w.heap.size, 11, none⟩ = some (.string U) ∧ w'.cell? ⟨g, 5, none⟩ = some (.string (B Z1))) (first | go_keep) (first | (go_at_call 9; (with_reducible refine (HCK2.out _).mono ?_); rintro e w6 ⟨rfl, hb6⟩; have n6 : DAt w #[.string nm, .string m, .string o, .string z, .string s, .slice Ar nr cr, .string ku, .string kh, .string p, .string q, .slice Am lm cm, .string U, .slice (some ad) lc cc] g Z1 A' (nextM M Cj) w6 := (by first | exact HD.out.next hb6 | exact HD.out.drew.next hb6); obtain ⟨q0, q1, q2, q3, q4, q5, q6, q7, q8, q9, q10, q11, q12⟩ := n6.his.all; have hc6 := n6.c5; have H6 := Lib.hid n6; clear hb6 n6))
          all_goals
            go_wp2_with fail
            go_roundw
            case rel => exact ⟨k + 1, n', c', A', nextM M Cj, rfl, rfl, HLT.out, HNL'.out, by rw [← HNL'.out]; exact HNL.out, HNX.out, H6.out.sl, H6.out.his⟩
            case measure => have := HLT.out; simp only [intOf]; omega
    · obtain rfl : k = lc := by omega
      obtain ⟨Zf, hZf⟩ : ∃ Zf, raiseN (num m) M (num ku) = Zf := ⟨_, rfl⟩
      have hva := fun W hs => HVA.out M HHM.out A n c W HMN.out (by have := HN8.out; have := HLC6.out; omega) hs
      have hcnt := HCNT.out M
      rw [hZf] at hva hcnt
      rw [HNN.out] at hcnt
      have HVF := Lib.hid hva
      have HONE := Lib.hid hcnt
      have HN1 := Lib.hid (show 1 ≤ N from by
        rcases Nat.eq_zero_or_pos N with h0 | h0
        · rw [h0] at hcnt; cases hcnt
        · exact h0)
      have HCHA := Lib.hid (fun (x : Nat) (W : World) => acc_Check (.string nm) (.string z) (.string s) (.slice Ar nr cr) (.string kh) m o ku (B Zf) U (B x) W sm)
      have HISA := Lib.hid (fun (x : Nat) (W : World) hT => rsagroup_IsSquare m o p q (B x) W sm hT)
      have hN500 : N ≤ 500 := H500.out
      clear hva hcnt hZf hk hlt
      go_wp2_with (go_at_call 8; (with_reducible refine (HVF.out _ HSL.out).mono ?_); rintro e w6 ⟨rfl, hb6⟩; have H6 := Lib.hid (K0.out.next hb6); clear hb6)
      go_loopw [15, 16] (fun v15 v16 wr => ∃ (x cc' : Nat), v15 = .int .i64 cc' ∧ v16 = .int .u64 x ∧ 1 ≤ x ∧ x ≤ N ∧ cc' = cntP (uniqS m o p q (B Zf) U) x ∧ HisBox w #[.string nm, .string m, .string o, .string z, .string s, .slice Ar nr cr, .string ku, .string kh, .string p, .string q, .slice Am lm cm, .string U, .slice Ac k cc] wr) (fun _ v16 _ => N - (intOf v16).toNat)
      case atStart => exact ⟨1, 0, rfl, rfl, Nat.le_refl _, HN1.out, by simp [cntP, uniqS], H6.out⟩
      case round =>
        obtain ⟨x, cc', rfl, rfl, hx1, hx, hc, hbx⟩ := hrel
        have HC := Lib.hid hc
        have HK := Lib.hid hbx
        clear u0 u1 u2 u3 u4 u5 u6 u7 u8 u9 u10 u11 u12
        obtain ⟨u0, u1, u2, u3, u4, u5, u6, u7, u8, u9, u10, u11, u12⟩ := hbx.all
        have hcl : cc' ≤ 500 := by have := cntP_le (uniqS m o p q (B Zf) U) x; omega
        clear hc hbx
        by_cases hlt : x < N
        · have HNUM := Lib.hid (fun W => natural_Of x W (by omega))
          have his := HISA.out x
          have hch := HCHA.out x
          have hcs : cntP (uniqS m o p q (B Zf) U) (x + 1) = cntP (uniqS m o p q (B Zf) U) x + if uniqS m o p q (B Zf) U x then 1 else 0 := rfl
          have hub : uniqS m o p q (B Zf) U x = (decide ((isSquareS m o p q (B x)).2 = 0) && ((isSquareS m o p q (B x)).1 && decide (checkAS m o (B Zf) U (B x) = 0))) := by unfold uniqS; rw [decide_eq_true hx1]; rfl
          rw [← HC.out, hub] at hcs
          obtain ⟨sq, hsqv⟩ : ∃ sq, (isSquareS m o p q (B x)).1 = sq := ⟨_, rfl⟩
          obtain ⟨se, hsev⟩ : ∃ se, (isSquareS m o p q (B x)).2 = se := ⟨_, rfl⟩
          obtain ⟨ck, hckv⟩ : ∃ ck, checkAS m o (B Zf) U (B x) = ck := ⟨_, rfl⟩
          rw [hsqv, hsev] at his
          rw [hsqv, hsev, hckv] at hcs
          rw [hckv] at hch
          have HIS := Lib.hid his
          have HCH2 := Lib.hid hch
          have HCS2 := Lib.hid hcs
          have HLT := Lib.hid hlt
          clear his hch hcs hub hsqv hsev hckv
          by_cases f1 : se = 0
          · subst f1
            cases sq
            · have HF : Hid (cntP (uniqS m o p q (B Zf) U) (x + 1) = cc') := Lib.hid (by rw [HCS2.out]; rfl)
              go_wp2_with fail
              go_region_held3 (fun w' => w'.cell? ⟨w.heap.size, 0, none⟩ = some (.string nm) ∧ w'.cell? ⟨w.heap.size, 1, none⟩ = some (.string m) ∧ w'.cell? ⟨w.heap.size, 2, none⟩ = some (.string o) ∧ w'.cell? ⟨w.heap.size, 3, none⟩ = some (.string z) ∧ w'.cell? ⟨w.heap.size, 4, none⟩ = some (.string s) ∧ w'.cell? ⟨w.heap.size, 5, none⟩ = some (.slice Ar nr cr) ∧ w'.cell? ⟨w.heap.size, 6, none⟩ = some (.string ku) ∧ w'.cell? ⟨w.heap.size, 7, none⟩ = some (.string kh) ∧ w'.cell? ⟨w.heap.size, 8, none⟩ = some (.string p) ∧ w'.cell? ⟨w.heap.size, 9, none⟩ = some (.string q) ∧ w'.cell? ⟨w.heap.size, 11, none⟩ = some (.string U)) (first | go_keep) (first | (go_at_call 12; (with_reducible refine (HNUM.out _).mono ?_); rintro e wk1 ⟨rfl, hb⟩; have n : HisBox w #[.string nm, .string m, .string o, .string z, .string s, .slice Ar nr cr, .string ku, .string kh, .string p, .string q, .slice Am lm cm, .string U, .slice Ac k cc] wk1 := (by first | exact HK.out.next hb | exact HK.out.drew.next hb); obtain ⟨a0, a1, a2, a3, a4, a5, a6, a7, a8, a9, a10, a11, a12⟩ := n.all; have K1 := Lib.hid n; clear n hb) | (go_at_call 11; (with_reducible refine (HIS.out _ K1.out.bt.tab).mono ?_); rintro e wk2 ⟨rfl, hb⟩; have n : HisBox w #[.string nm, .string m, .string o, .string z, .string s, .slice Ar nr cr, .string ku, .string kh, .string p, .string q, .slice Am lm cm, .string U, .slice Ac k cc] wk2 := (by first | exact K1.out.next hb | exact K1.out.drew.next hb); obtain ⟨b0, b1, b2, b3, b4, b5, b6, b7, b8, b9, b10, b11, b12⟩ := n.all; have K2 := Lib.hid n; clear n hb))
              all_goals
                go_wp2_with fail
                go_quiet ((fail))
                all_goals
                  go_wp2_with fail
                  go_roundw
                  case rel => exact ⟨x + 1, cc', rfl, rfl, by omega, HLT.out, HF.out.symm, K2.out.drewN _⟩
                  case measure => have := HLT.out; simp only [intOf]; omega
            · by_cases f2 : ck = 0
              · subst f2
                have HF : Hid (cntP (uniqS m o p q (B Zf) U) (x + 1) = cc' + 1) := Lib.hid (by rw [HCS2.out]; rfl)
                go_wp2_with fail
                go_region_held3 (fun w' => w'.cell? ⟨w.heap.size, 0, none⟩ = some (.string nm) ∧ w'.cell? ⟨w.heap.size, 1, none⟩ = some (.string m) ∧ w'.cell? ⟨w.heap.size, 2, none⟩ = some (.string o) ∧ w'.cell? ⟨w.heap.size, 3, none⟩ = some (.string z) ∧ w'.cell? ⟨w.heap.size, 4, none⟩ = some (.string s) ∧ w'.cell? ⟨w.heap.size, 5, none⟩ = some (.slice Ar nr cr) ∧ w'.cell? ⟨w.heap.size, 6, none⟩ = some (.string ku) ∧ w'.cell? ⟨w.heap.size, 7, none⟩ = some (.string kh) ∧ w'.cell? ⟨w.heap.size, 8, none⟩ = some (.string p) ∧ w'.cell? ⟨w.heap.size, 9, none⟩ = some (.string q) ∧ w'.cell? ⟨w.heap.size, 11, none⟩ = some (.string U)) (first | go_keep) (first | (go_at_call 12; (with_reducible refine (HNUM.out _).mono ?_); rintro e wk1 ⟨rfl, hb⟩; have n : HisBox w #[.string nm, .string m, .string o, .string z, .string s, .slice Ar nr cr, .string ku, .string kh, .string p, .string q, .slice Am lm cm, .string U, .slice Ac k cc] wk1 := (by first | exact HK.out.next hb | exact HK.out.drew.next hb); obtain ⟨a0, a1, a2, a3, a4, a5, a6, a7, a8, a9, a10, a11, a12⟩ := n.all; have K1 := Lib.hid n; clear n hb) | (go_at_call 11; (with_reducible refine (HIS.out _ K1.out.bt.tab).mono ?_); rintro e wk2 ⟨rfl, hb⟩; have n : HisBox w #[.string nm, .string m, .string o, .string z, .string s, .slice Ar nr cr, .string ku, .string kh, .string p, .string q, .slice Am lm cm, .string U, .slice Ac k cc] wk2 := (by first | exact K1.out.next hb | exact K1.out.drew.next hb); obtain ⟨b0, b1, b2, b3, b4, b5, b6, b7, b8, b9, b10, b11, b12⟩ := n.all; have K2 := Lib.hid n; clear n hb))
                all_goals
                  go_wp2_with fail
                  go_region_held3 (fun w' => w'.cell? ⟨w.heap.size, 0, none⟩ = some (.string nm) ∧ w'.cell? ⟨w.heap.size, 1, none⟩ = some (.string m) ∧ w'.cell? ⟨w.heap.size, 2, none⟩ = some (.string o) ∧ w'.cell? ⟨w.heap.size, 3, none⟩ = some (.string z) ∧ w'.cell? ⟨w.heap.size, 4, none⟩ = some (.string s) ∧ w'.cell? ⟨w.heap.size, 5, none⟩ = some (.slice Ar nr cr) ∧ w'.cell? ⟨w.heap.size, 6, none⟩ = some (.string ku) ∧ w'.cell? ⟨w.heap.size, 7, none⟩ = some (.string kh) ∧ w'.cell? ⟨w.heap.size, 8, none⟩ = some (.string p) ∧ w'.cell? ⟨w.heap.size, 9, none⟩ = some (.string q) ∧ w'.cell? ⟨w.heap.size, 11, none⟩ = some (.string U)) (first | go_keep) (first | (go_at_call 12; (with_reducible refine (HNUM.out _).mono ?_); rintro e wk3 ⟨rfl, hb⟩; have n : HisBox w #[.string nm, .string m, .string o, .string z, .string s, .slice Ar nr cr, .string ku, .string kh, .string p, .string q, .slice Am lm cm, .string U, .slice Ac k cc] wk3 := (by first | exact K2.out.next hb | exact K2.out.drew.next hb); obtain ⟨d0, d1, d2, d3, d4, d5, d6, d7, d8, d9, d10, d11, d12⟩ := n.all; have K3 := Lib.hid n; clear n hb) | (go_at_call 9; (with_reducible refine (HCH2.out _).mono ?_); rintro e wk4 ⟨rfl, hb⟩; have n : HisBox w #[.string nm, .string m, .string o, .string z, .string s, .slice Ar nr cr, .string ku, .string kh, .string p, .string q, .slice Am lm cm, .string U, .slice Ac k cc] wk4 := (by first | exact K3.out.next hb | exact K3.out.drew.next hb); obtain ⟨e0, e1, e2, e3, e4, e5, e6, e7, e8, e9, e10, e11, e12⟩ := n.all; have K4 := Lib.hid n; clear n hb))
                  all_goals
                    go_wp2_with fail
                    go_roundw
                    case rel => exact ⟨x + 1, cc' + 1, rfl, rfl, by omega, HLT.out, HF.out.symm, K4.out⟩
                    case measure => have := HLT.out; simp only [intOf]; omega
              · have kk : (ck == 0) = false := by rw [beq_eq_false_iff_ne]; exact f2
                have HF : Hid (cntP (uniqS m o p q (B Zf) U) (x + 1) = cc') := Lib.hid (by rw [HCS2.out, decide_eq_false f2]; rfl)
                clear f2
                go_wp2_with fail
                go_region_held3 (fun w' => w'.cell? ⟨w.heap.size, 0, none⟩ = some (.string nm) ∧ w'.cell? ⟨w.heap.size, 1, none⟩ = some (.string m) ∧ w'.cell? ⟨w.heap.size, 2, none⟩ = some (.string o) ∧ w'.cell? ⟨w.heap.size, 3, none⟩ = some (.string z) ∧ w'.cell? ⟨w.heap.size, 4, none⟩ = some (.string s) ∧ w'.cell? ⟨w.heap.size, 5, none⟩ = some (.slice Ar nr cr) ∧ w'.cell? ⟨w.heap.size, 6, none⟩ = some (.string ku) ∧ w'.cell? ⟨w.heap.size, 7, none⟩ = some (.string kh) ∧ w'.cell? ⟨w.heap.size, 8, none⟩ = some (.string p) ∧ w'.cell? ⟨w.heap.size, 9, none⟩ = some (.string q) ∧ w'.cell? ⟨w.heap.size, 11, none⟩ = some (.string U)) (first | go_keep) (first | (go_at_call 12; (with_reducible refine (HNUM.out _).mono ?_); rintro e wk1 ⟨rfl, hb⟩; have n : HisBox w #[.string nm, .string m, .string o, .string z, .string s, .slice Ar nr cr, .string ku, .string kh, .string p, .string q, .slice Am lm cm, .string U, .slice Ac k cc] wk1 := (by first | exact HK.out.next hb | exact HK.out.drew.next hb); obtain ⟨a0, a1, a2, a3, a4, a5, a6, a7, a8, a9, a10, a11, a12⟩ := n.all; have K1 := Lib.hid n; clear n hb) | (go_at_call 11; (with_reducible refine (HIS.out _ K1.out.bt.tab).mono ?_); rintro e wk2 ⟨rfl, hb⟩; have n : HisBox w #[.string nm, .string m, .string o, .string z, .string s, .slice Ar nr cr, .string ku, .string kh, .string p, .string q, .slice Am lm cm, .string U, .slice Ac k cc] wk2 := (by first | exact K1.out.next hb | exact K1.out.drew.next hb); obtain ⟨b0, b1, b2, b3, b4, b5, b6, b7, b8, b9, b10, b11, b12⟩ := n.all; have K2 := Lib.hid n; clear n hb))
                all_goals
                  go_wp2_with fail
                  go_region_held3 (fun w' => w'.cell? ⟨w.heap.size, 0, none⟩ = some (.string nm) ∧ w'.cell? ⟨w.heap.size, 1, none⟩ = some (.string m) ∧ w'.cell? ⟨w.heap.size, 2, none⟩ = some (.string o) ∧ w'.cell? ⟨w.heap.size, 3, none⟩ = some (.string z) ∧ w'.cell? ⟨w.heap.size, 4, none⟩ = some (.string s) ∧ w'.cell? ⟨w.heap.size, 5, none⟩ = some (.slice Ar nr cr) ∧ w'.cell? ⟨w.heap.size, 6, none⟩ = some (.string ku) ∧ w'.cell? ⟨w.heap.size, 7, none⟩ = some (.string kh) ∧ w'.cell? ⟨w.heap.size, 8, none⟩ = some (.string p) ∧ w'.cell? ⟨w.heap.size, 9, none⟩ = some (.string q) ∧ w'.cell? ⟨w.heap.size, 11, none⟩ = some (.string U)) (first | go_keep) (first | (go_at_call 12; (with_reducible refine (HNUM.out _).mono ?_); rintro e wk3 ⟨rfl, hb⟩; have n : HisBox w #[.string nm, .string m, .string o, .string z, .string s, .slice Ar nr cr, .string ku, .string kh, .string p, .string q, .slice Am lm cm, .string U, .slice Ac k cc] wk3 := (by first | exact K2.out.next hb | exact K2.out.drew.next hb); obtain ⟨d0, d1, d2, d3, d4, d5, d6, d7, d8, d9, d10, d11, d12⟩ := n.all; have K3 := Lib.hid n; clear n hb) | (go_at_call 9; (with_reducible refine (HCH2.out _).mono ?_); rintro e wk4 ⟨rfl, hb⟩; have n : HisBox w #[.string nm, .string m, .string o, .string z, .string s, .slice Ar nr cr, .string ku, .string kh, .string p, .string q, .slice Am lm cm, .string U, .slice Ac k cc] wk4 := (by first | exact K3.out.next hb | exact K3.out.drew.next hb); obtain ⟨e0, e1, e2, e3, e4, e5, e6, e7, e8, e9, e10, e11, e12⟩ := n.all; have K4 := Lib.hid n; clear n hb))
                  all_goals
                    go_wp2_with fail
                    go_roundw
                    case rel => exact ⟨x + 1, cc', rfl, rfl, by omega, HLT.out, HF.out.symm, K4.out⟩
                    case measure => have := HLT.out; simp only [intOf]; omega
          · have kk : (se == 0) = false := by rw [beq_eq_false_iff_ne]; exact f1
            have HF : Hid (cntP (uniqS m o p q (B Zf) U) (x + 1) = cc') := Lib.hid (by rw [HCS2.out, decide_eq_false f1]; rfl)
            clear f1
            go_wp2_with fail
            go_region_held3 (fun w' => w'.cell? ⟨w.heap.size, 0, none⟩ = some (.string nm) ∧ w'.cell? ⟨w.heap.size, 1, none⟩ = some (.string m) ∧ w'.cell? ⟨w.heap.size, 2, none⟩ = some (.string o) ∧ w'.cell? ⟨w.heap.size, 3, none⟩ = some (.string z) ∧ w'.cell? ⟨w.heap.size, 4, none⟩ = some (.string s) ∧ w'.cell? ⟨w.heap.size, 5, none⟩ = some (.slice Ar nr cr) ∧ w'.cell? ⟨w.heap.size, 6, none⟩ = some (.string ku) ∧ w'.cell? ⟨w.heap.size, 7, none⟩ = some (.string kh) ∧ w'.cell? ⟨w.heap.size, 8, none⟩ = some (.string p) ∧ w'.cell? ⟨w.heap.size, 9, none⟩ = some (.string q) ∧ w'.cell? ⟨w.heap.size, 11, none⟩ = some (.string U)) (first | go_keep) (first | (go_at_call 12; (with_reducible refine (HNUM.out _).mono ?_); rintro e wk1 ⟨rfl, hb⟩; have n : HisBox w #[.string nm, .string m, .string o, .string z, .string s, .slice Ar nr cr, .string ku, .string kh, .string p, .string q, .slice Am lm cm, .string U, .slice Ac k cc] wk1 := (by first | exact HK.out.next hb | exact HK.out.drew.next hb); obtain ⟨a0, a1, a2, a3, a4, a5, a6, a7, a8, a9, a10, a11, a12⟩ := n.all; have K1 := Lib.hid n; clear n hb) | (go_at_call 11; (with_reducible refine (HIS.out _ K1.out.bt.tab).mono ?_); rintro e wk2 ⟨rfl, hb⟩; have n : HisBox w #[.string nm, .string m, .string o, .string z, .string s, .slice Ar nr cr, .string ku, .string kh, .string p, .string q, .slice Am lm cm, .string U, .slice Ac k cc] wk2 := (by first | exact K1.out.next hb | exact K1.out.drew.next hb); obtain ⟨b0, b1, b2, b3, b4, b5, b6, b7, b8, b9, b10, b11, b12⟩ := n.all; have K2 := Lib.hid n; clear n hb))
            all_goals
              go_wp2_with fail
              go_quiet ((fail))
              all_goals
                go_wp2_with fail
                go_roundw
                case rel => exact ⟨x + 1, cc', rfl, rfl, by omega, HLT.out, HF.out.symm, K2.out.drewN _⟩
                case measure => have := HLT.out; simp only [intOf]; omega
        · have hkn : x = N := by omega
          subst hkn
          have hc1 : cc' = 1 := by rw [HC.out, HONE.out]
          subst hc1
          go_wp2_with fail
          go_ret
          exact ⟨rfl, HK.out.bt.bel⟩

end Go.Proofs.YtcpglhjmhegfmaaGreatDoor
