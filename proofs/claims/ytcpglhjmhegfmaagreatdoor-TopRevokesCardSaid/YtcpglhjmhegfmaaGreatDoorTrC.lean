/- TopRevokes: historyReady says true only of a history that can be played. -/
import Derived.Test.YtcpglhjmhegfmaaGreatDoorTrA
namespace Go.Proofs.YtcpglhjmhegfmaaGreatDoor
open Go.RowKit
set_option maxRecDepth 100000
set_option linter.unusedVariables false
set_option maxHeartbeats 4000000

/-- A row of slices of strings in memory. -/
def CLs (w : World) (b : Nat) (A : Option Addr) (Cs : List (List ByteArray)) : Prop :=
  Cs ≠ [] → ∃ ad, A = some ad ∧ ad.block < b ∧ ∀ j, j < Cs.length → ∃ Aj nj cj, w.cell? (ad.add j) = some (.slice Aj nj cj) ∧ (Cs.getD j []).length = nj ∧ nj ≤ maxLen ∧ nj ≤ cj ∧ SLs w b Aj (Cs.getD j [])
theorem CLs.below {w w' : World} {b : Nat} {A : Option Addr} {Cs : List (List ByteArray)} (h : CLs w b A Cs) (hb : Below b w w') : CLs w' b A Cs := fun hne => by
  obtain ⟨ad, e, h1, h2⟩ := h hne
  refine ⟨ad, e, h1, fun j hj => ?_⟩
  obtain ⟨Aj, nj, cj, a, b', c, d, f⟩ := h2 j hj
  exact ⟨Aj, nj, cj, (hb.cell (by unfold Addr.add; split <;> exact h1)).trans a, b', c, d, f.below hb⟩
/-- The box of the history. -/
structure HisBox (w : World) (CC : Array Value) (wx : World) : Prop where
  blk : wx.heap[w.heap.size]? = some (.cells CC 32 (0, 0))
  bt : BT w wx
  size : w.heap.size < wx.heap.size
section
variable {w wx w' : World} {CC : Array Value}
theorem HisBox.next (h : HisBox w CC wx) (hb : Below wx.heap.size wx w') : HisBox w CC w' := ⟨(hb.block _ h.size).trans h.blk, h.bt.next hb, Nat.lt_of_lt_of_le h.size hb.size⟩
theorem HisBox.drew (h : HisBox w CC wx) : HisBox w CC wx.drew := h.next (Below.refl _ _).drew
theorem HisBox.drewN (h : HisBox w CC wx) (n : Nat) : HisBox w CC (wx.drewN n) := h.next (below_drewN (Below.refl _ _) n)
theorem HisBox.alloc (h : HisBox w CC wx) (o : Obj) : HisBox w CC (wx.alloc o) := h.next ((Below.refl _ _).alloc (Nat.le_refl _) _)
theorem HisBox.box (hT : Tab w) : HisBox w CC (w.alloc (.cells CC 32)) := ⟨heap_alloc_new w _, (BT.refl hT).alloc _, by simp⟩
theorem HisBox.all {v0 v1 v2 v3 v4 v5 v6 v7 v8 v9 v10 v11 v12 : Value} (k : HisBox w #[v0, v1, v2, v3, v4, v5, v6, v7, v8, v9, v10, v11, v12] wx) :
    wx.cell? ⟨w.heap.size, 0, none⟩ = some v0 ∧ wx.cell? ⟨w.heap.size, 1, none⟩ = some v1 ∧ wx.cell? ⟨w.heap.size, 2, none⟩ = some v2 ∧ wx.cell? ⟨w.heap.size, 3, none⟩ = some v3 ∧ wx.cell? ⟨w.heap.size, 4, none⟩ = some v4 ∧ wx.cell? ⟨w.heap.size, 5, none⟩ = some v5 ∧ wx.cell? ⟨w.heap.size, 6, none⟩ = some v6 ∧ wx.cell? ⟨w.heap.size, 7, none⟩ = some v7 ∧ wx.cell? ⟨w.heap.size, 8, none⟩ = some v8 ∧ wx.cell? ⟨w.heap.size, 9, none⟩ = some v9 ∧ wx.cell? ⟨w.heap.size, 10, none⟩ = some v10 ∧ wx.cell? ⟨w.heap.size, 11, none⟩ = some v11 ∧ wx.cell? ⟨w.heap.size, 12, none⟩ = some v12 :=
  ⟨cell_of_row wx _ 0 _ _ _ k.blk, cell_of_row wx _ 1 _ _ _ k.blk, cell_of_row wx _ 2 _ _ _ k.blk, cell_of_row wx _ 3 _ _ _ k.blk, cell_of_row wx _ 4 _ _ _ k.blk, cell_of_row wx _ 5 _ _ _ k.blk, cell_of_row wx _ 6 _ _ _ k.blk, cell_of_row wx _ 7 _ _ _ k.blk, cell_of_row wx _ 8 _ _ _ k.blk, cell_of_row wx _ 9 _ _ _ k.blk, cell_of_row wx _ 10 _ _ _ k.blk, cell_of_row wx _ 11 _ _ _ k.blk, cell_of_row wx _ 12 _ _ _ k.blk⟩
theorem HisBox.sls {A : Option Addr} {ls : List ByteArray} (h : HisBox w CC wx) (hs : SLs w w.heap.size A ls) : SLs wx wx.heap.size A ls := (hs.below h.bt.bel).more h.bt.bel.size
end
theorem HisBox.sls' {w wx : World} {CC : Array Value} {A : Option Addr} {ls : List ByteArray} (h : HisBox w CC wx) (hs : SLs wx w.heap.size A ls) : SLs wx wx.heap.size A ls := hs.more h.bt.bel.size
theorem cgetD_lt {L : List (List ByteArray)} {k : Nat} (h : k < L.length) : L.getD k [] = L[k] := by simp [List.getD, h]
theorem mem_of_any {ms : List ByteArray} {U : ByteArray} (h : (ms.any fun y => y.toList == U.toList) = true) : U ∈ ms := by
  obtain ⟨y, hy, he⟩ := List.any_eq_true.1 h
  rw [← toList_inj he]
  exact hy
def ReadyOut (m o p q ku U : ByteArray) (ms : List ByteArray) (Cs : List (List ByteArray)) (w : World) (e : Ending) (w' : World) : Prop :=
  ∃ b, e = .returned (.bool b) ∧ (b = true → HRdy m o p q ku U ms Cs) ∧ Below w.heap.size w w' ∧ Tab w'
theorem ReadyOut.no {m o p q ku U : ByteArray} {ms : List ByteArray} {Cs : List (List ByteArray)} {w w' : World} {e : Ending} {CC : Array Value} (h : e = .returned (.bool false)) (hb : HisBox w CC w') : ReadyOut m o p q ku U ms Cs w e w' :=
  ⟨false, h, (fun h => by cases h), hb.bt.bel, hb.bt.tab⟩
theorem fewK_m {nm m o z s u h : ByteArray} {rs : List ByteArray} (hf : fewK nm m o z s u h rs = true) : m.size ≤ 8 := by
  unfold fewK shS at hf
  simp only [Bool.and_eq_true, List.all_cons, decide_eq_true_eq] at hf
  exact hf.1.1
theorem top_ready (nm m o z s ku kh p q U : ByteArray) (Ar Am Ac : Option Addr) (nr cr lm cm lc cc : Nat) (rs ms : List ByteArray) (Cs : List (List ByteArray)) (w : World) (hT : Tab w)
    (hnr : rs.length = nr) (hmr : nr ≤ maxLen) (hsr : SLs w w.heap.size Ar rs) (hnm : ms.length = lm) (hmm : lm ≤ maxLen) (hcm : lm ≤ cm) (hsm : SLs w w.heap.size Am ms)
    (hnc : Cs.length = lc) (hsc : CLs w w.heap.size Ac Cs) :
    Calls Tryz.prog 5 #[.agg #[.string nm, .string m, .string o, .string z, .string s, .slice Ar nr cr, .string ku, .string kh, .string p, .string q, .slice Am lm cm, .string U, .slice Ac lc cc]] w (ReadyOut m o p q ku U ms Cs w) := by
  have HB := Lib.hid (HisBox.box (CC := #[.string nm, .string m, .string o, .string z, .string s, .slice Ar nr cr, .string ku, .string kh, .string p, .string q, .slice Am lm cm, .string U, .slice Ac lc cc]) hT)
  have HSR := Lib.hid hsr
  have HSM := Lib.hid hsm
  have HSC := Lib.hid hsc
  have HNC := Lib.hid hnc
  have HFK := Lib.hid (fun (W : World) hs => law30_FewKey nm m o z s ku kh Ar nr cr W.heap.size rs W hnr hmr hs (Nat.le_refl _))
  have HHM := Lib.hid (fun (W : World) hT hs => top_handles p q ms Am lm cm W hT hnm hmm hcm hs)
  have hhas := fun (W : World) b (h8 : ms.length ≤ 8) hs => top_has ms U Am lm cm b W hnm (by omega) hs
  have HNM := Lib.hid hnm
  obtain ⟨y0, y1, y2, y3, y4, y5, y6, y7, y8, y9, y10, y11, y12⟩ := HB.out.all
  clear hT hnr hmr hsr hnm hmm hcm hsm hnc hsc
  cases hf : fewK nm m o z s ku kh rs
  · rw [hf] at HFK
    have HHAS := Lib.hid hhas
    clear hf hhas
    go_enter Tryz.func5, Tryz.ntmps5
    go_wp2_with (first | (go_at_call 14; (with_reducible refine (HFK.out _ (HB.out.sls HSR.out)).mono ?_); rintro e w1 ⟨rfl, hb1⟩; have H1 := Lib.hid (HB.out.next hb1); clear hb1))
    go_ret
    exact ReadyOut.no rfl H1.out
  have SM := Lib.hid (fewK_m hf)
  rw [hf] at HFK
  clear hf
  by_cases hp : p.size ≤ 8
  rotate_left
  · have k1 : decide ((8 : Int) < (p.size : Int)) = true := decide_eq_true (by omega)
    have HHAS := Lib.hid hhas
    clear hp hhas
    go_enter Tryz.func5, Tryz.ntmps5
    go_wp2_with (first | (go_at_call 14; (with_reducible refine (HFK.out _ (HB.out.sls HSR.out)).mono ?_); rintro e w1 ⟨rfl, hb1⟩; have n1 := HB.out.next hb1; obtain ⟨x0, x1, x2, x3, x4, x5, x6, x7, x8, x9, x10, x11, x12⟩ := n1.all; have H1 := Lib.hid n1; clear hb1 n1))
    go_ret
    exact ReadyOut.no rfl H1.out
  have k1 : decide ((8 : Int) < (p.size : Int)) = false := decide_eq_false (by omega)
  clear hp
  by_cases hq : q.size ≤ 8
  rotate_left
  · have k2 : decide ((8 : Int) < (q.size : Int)) = true := decide_eq_true (by omega)
    have HHAS := Lib.hid hhas
    clear hq hhas
    go_enter Tryz.func5, Tryz.ntmps5
    go_wp2_with (first | (go_at_call 14; (with_reducible refine (HFK.out _ (HB.out.sls HSR.out)).mono ?_); rintro e w1 ⟨rfl, hb1⟩; have n1 := HB.out.next hb1; obtain ⟨x0, x1, x2, x3, x4, x5, x6, x7, x8, x9, x10, x11, x12⟩ := n1.all; have H1 := Lib.hid n1; clear hb1 n1))
    go_ret
    exact ReadyOut.no rfl H1.out
  have k2 : decide ((8 : Int) < (q.size : Int)) = false := decide_eq_false (by omega)
  clear hq
  by_cases hc : lc ≤ 6
  rotate_left
  · have k3 : decide ((6 : Int) < (lc : Int)) = true := decide_eq_true (by omega)
    have HHAS := Lib.hid hhas
    clear hc hhas
    go_enter Tryz.func5, Tryz.ntmps5
    go_wp2_with (first | (go_at_call 14; (with_reducible refine (HFK.out _ (HB.out.sls HSR.out)).mono ?_); rintro e w1 ⟨rfl, hb1⟩; have n1 := HB.out.next hb1; obtain ⟨x0, x1, x2, x3, x4, x5, x6, x7, x8, x9, x10, x11, x12⟩ := n1.all; have H1 := Lib.hid n1; clear hb1 n1))
    go_ret
    exact ReadyOut.no rfl H1.out
  have k3 : decide ((6 : Int) < (lc : Int)) = false := decide_eq_false (by omega)
  have HC6 := Lib.hid hc
  clear hc
  obtain ⟨bu, hbu⟩ : ∃ bu, (ms.any fun y => y.toList == U.toList) = bu := ⟨_, rfl⟩
  rw [hbu] at hhas
  have HHAS := Lib.hid hhas
  have HBU := Lib.hid hbu
  have HSQ := Lib.hid (fun W hT => rsagroup_IsSquare m o p q ku W SM.out hT)
  clear hhas hbu
  go_enter Tryz.func5, Tryz.ntmps5
  go_wp2_with (first | (go_at_call 14; (with_reducible refine (HFK.out _ (HB.out.sls HSR.out)).mono ?_); rintro e w1 ⟨rfl, hb1⟩; have n1 := HB.out.next hb1; obtain ⟨x0, x1, x2, x3, x4, x5, x6, x7, x8, x9, x10, x11, x12⟩ := n1.all; have H1 := Lib.hid n1; clear hb1 n1) | (go_at_call 15; (with_reducible refine (HHM.out _ H1.out.bt.tab (H1.out.sls HSM.out)).mono ?_); rintro e w2 ⟨b, rfl, hi, hb2, ht2⟩; have n2 := H1.out.next hb2; obtain ⟨z0, z1, z2, z3, z4, z5, z6, z7, z8, z9, z10, z11, z12⟩ := n2.all; have H2 := Lib.hid n2; have HI := Lib.hid hi; clear hb2 ht2 n2 hi; cases b))
  · go_ret
    exact ReadyOut.no rfl H2.out
  obtain ⟨ho, hl8, hhh⟩ := HI.out (by trivial)
  have HO := Lib.hid ho
  have HL8 := Lib.hid hl8
  have HHH := Lib.hid hhh
  clear ho hl8 hhh HI
  cases bu
  · go_wp2_with (first | (go_at_call 16; (with_reducible refine (HHAS.out _ _ HL8.out (H2.out.sls HSM.out)).mono ?_); rintro e w' ⟨rfl, rfl⟩))
    go_ret
    exact ReadyOut.no rfl H2.out
  go_wp2_with (first | (go_at_call 16; (with_reducible refine (HHAS.out _ _ HL8.out (H2.out.sls HSM.out)).mono ?_); rintro e w' ⟨rfl, rfl⟩))
  go_loopw [3] (fun v wr => ∃ k : Nat, v = .int .i64 k ∧ k ≤ lc ∧ (∀ j, j < k → HH (num (orderS p q).1) (Cs.getD j []) ∧ (Cs.getD j []).length ≤ 8) ∧ HisBox w #[.string nm, .string m, .string o, .string z, .string s, .slice Ar nr cr, .string ku, .string kh, .string p, .string q, .slice Am lm cm, .string U, .slice Ac lc cc] wr) (fun v _ => lc - (intOf v).toNat)
  case atStart => exact ⟨0, rfl, Nat.zero_le _, fun j h => absurd h (Nat.not_lt_zero _), H2.out⟩
  case round =>
    obtain ⟨k, rfl, hk, hall, hbx⟩ := hrel
    have HA := Lib.hid hall
    have H3 := Lib.hid hbx
    obtain ⟨u0, u1, u2, u3, u4, u5, u6, u7, u8, u9, u10, u11, u12⟩ := hbx.all
    clear hall hbx
    by_cases hlt : k < lc
    · obtain ⟨ad, rfl, hab, hcs⟩ := (HSC.out.below H3.out.bt.bel) (by intro e; have := HNC.out; rw [e] at this; simp at this; omega)
      obtain ⟨Aj, nj, cj, hc, hnj, hmj, hcj, hsj⟩ := hcs k (by rw [HNC.out]; exact hlt)
      obtain ⟨cs, hcs2⟩ : ∃ cs, Cs.getD k [] = cs := ⟨_, rfl⟩
      rw [hcs2] at hnj hsj
      have HCE := Lib.hid (show ∀ w', BT w w' → w'.cell? (ad.add k) = some (.slice Aj nj cj) from fun w' hk' => by
        have hadl : (ad.add k).block < w.heap.size := by unfold Addr.add; split <;> exact hab
        have e1 := hk'.bel.cell hadl
        have e2 := H3.out.bt.bel.cell hadl
        rw [e1, ← e2]; exact hc)
      have HCS := Lib.hid hcs2
      have HSJ := Lib.hid hsj
      have HHJ := Lib.hid (fun (W : World) hT hs => top_handles p q cs Aj nj cj W hT hnj hmj hcj hs)
      have HLT := Lib.hid hlt
      have hc6 : lc ≤ 6 := HC6.out
      clear hnj hmj hcj hsj hcs hcs2 hab
      go_wp2_with fail
      go_region_held3 (fun w' => w'.cell? ⟨w.heap.size, 8, none⟩ = some (.string p) ∧ w'.cell? ⟨w.heap.size, 9, none⟩ = some (.string q) ∧ w'.cell? ⟨w.heap.size, 12, none⟩ = some (.slice (some ad) lc cc) ∧ w'.cell? (ad.add k) = some (.slice Aj nj cj)) (first | go_keep) (first | (go_at_call 15; (first | (with_reducible refine (HHJ.out _ H3.out.bt.tab (H3.out.sls' HSJ.out)).mono ?_) | (with_reducible refine (HHJ.out _ H3.out.drew.bt.tab (H3.out.drew.sls' HSJ.out.drew)).mono ?_)); rintro e w4 ⟨b, rfl, hi, hb4, ht4⟩; have n4 : HisBox w #[.string nm, .string m, .string o, .string z, .string s, .slice Ar nr cr, .string ku, .string kh, .string p, .string q, .slice Am lm cm, .string U, .slice (some ad) lc cc] w4 := by { first | exact H3.out.next hb4 | exact H3.out.drew.next hb4 }; have HI := Lib.hid hi; have hce := HCE.out _ n4.bt; obtain ⟨q0, q1, q2, q3, q4, q5, q6, q7, q8, q9, q10, q11, q12⟩ := n4.all; have H4 := Lib.hid n4; clear hb4 ht4 n4 hi))
      all_goals
        cases b
        · go_wp2_with fail
          go_ret
          exact ReadyOut.no rfl H4.out
        · obtain ⟨_, hl8, hhh⟩ := HI.out (by trivial)
          have HL2 := Lib.hid hl8
          have HH2 := Lib.hid hhh
          clear hl8 hhh
          go_wp2_with fail
          go_roundw
          case rel => exact ⟨k + 1, rfl, HLT.out, fun j hj => by
            by_cases e : j = k
            · subst e; rw [HCS.out]; exact ⟨HH2.out, HL2.out⟩
            · exact HA.out j (by omega), H4.out⟩
          case measure => have := HLT.out; simp only [intOf]; omega
    · obtain rfl : k = lc := by omega
      have HRD := Lib.hid (fun (h : isSquareS m o p q ku = (true, 0)) => HRdy.mk (m := m) (o := o) (p := p) (q := q) (ku := ku) (u := U) (ms := ms) (Cs := Cs) SM.out h HO.out HHH.out HL8.out
        (fun c hc => by obtain ⟨i, hi, rfl⟩ := List.getElem_of_mem hc; have := HA.out i (by rw [← HNC.out]; exact hi); rwa [cgetD_lt hi] at this) (by rw [HNC.out]; exact HC6.out) (mem_of_any HBU.out))
      obtain ⟨sq, hsq⟩ : ∃ sq, isSquareS m o p q ku = sq := ⟨_, rfl⟩
      have hs0 := HSQ.out
      rw [hsq] at HRD hs0
      obtain ⟨is, se⟩ := sq
      have HS0 := Lib.hid hs0
      clear hsq hs0 HSQ
      by_cases he : se = 0
      · subst he
        cases is
        all_goals
          go_wp2_with (first | (go_at_call 11; (with_reducible refine (HS0.out _ H3.out.bt.tab).mono ?_); rintro e w5 ⟨rfl, hb5⟩; have H5 := Lib.hid (H3.out.next hb5); clear hb5))
          go_ret
          first
            | exact ReadyOut.no rfl H5.out
            | exact ⟨true, rfl, fun _ => HRD.out (by trivial), H5.out.bt.bel, H5.out.bt.tab⟩
      · have ke : (se == 0) = false := by rw [beq_eq_false_iff_ne]; exact he
        clear he
        go_wp2_with (first | (go_at_call 11; (with_reducible refine (HS0.out _ H3.out.bt.tab).mono ?_); rintro e w5 ⟨rfl, hb5⟩; have H5 := Lib.hid (H3.out.next hb5); clear hb5))
        go_ret
        exact ReadyOut.no rfl H5.out

end Go.Proofs.YtcpglhjmhegfmaaGreatDoor
