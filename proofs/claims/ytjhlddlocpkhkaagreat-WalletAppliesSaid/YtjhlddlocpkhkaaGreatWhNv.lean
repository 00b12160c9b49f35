/- The reference: countOf, use. -/
import Derived.Test.YtjhlddlocpkhkaaGreatWhJ24
import Derived.Test.YtjhlddlocpkhkaaGreatWhJ28
namespace Go.Proofs.YtjhlddlocpkhkaaGreat
open Go.RowKit
set_option maxRecDepth 100000
set_option linter.unusedVariables false
set_option maxHeartbeats 16000000
theorem firstU {f : Uz → Bool} {x : Uz} : ∀ {us : List Uz} {k : Nat}, (us.take k).any f = false → us[k]? = some x → f x = true → us.find? f = some x ∧ ∀ j, idxU f us j = ((j + k : Nat) : Int)
  | [], k, _, h, _ => by simp at h
  | y :: r, 0, _, h, hx => by
    simp at h
    subst h
    exact ⟨by rw [List.find?_cons, hx], fun j => by unfold idxU; rw [if_pos hx]; rfl⟩
  | y :: r, k + 1, ha, h, hx => by
    rw [List.take_succ_cons, List.any_cons, Bool.or_eq_false_iff] at ha
    obtain ⟨h1, h2⟩ := firstU (us := r) (k := k) ha.2 (by simpa using h) hx
    refine ⟨by rw [List.find?_cons, ha.1]; exact h1, fun j => ?_⟩
    unfold idxU
    rw [if_neg (by rw [ha.1]; decide), h2 (j + 1)]
    omega
theorem findU_none {f : Uz → Bool} : ∀ {us : List Uz}, us.any f = false → us.find? f = none
  | [], _ => rfl
  | y :: r, h => by
    rw [List.any_cons, Bool.or_eq_false_iff] at h
    rw [List.find?_cons, h.1]
    exact findU_none h.2
theorem r56_countOf (us : List Uz) (A : Option Addr) (n c : Nat) (S : Nat → Prop) (sec : ByteArray) (Aa Ah : Option Addr) (na ca nh ch : Nat) (sc : ByteArray) (z : Int) (w : World) (hn : us.length = n) (hm : n ≤ 100000) (h : SlU w S A us) (hS : ∀ g, S g → g < w.heap.size) :
    Calls Tryz.prog 40 #[.agg #[.string sec, .slice Aa na ca, .slice Ah nh ch, .slice A n c], .string sc, .int .i64 z] w fun e w' => e = .returned (.tuple #[.int .i64 (idxU (isU sc z) us 0), .int .i64 (cntU (isU sc z) us)]) ∧ Below w.heap.size w w' := by
  have HB0 := Lib.hid (And.intro (heap_alloc_new w (.cells #[.string sec, .slice Aa na ca, .slice Ah nh ch, .slice A n c] 27)) ((Below.refl w.heap.size w).alloc (Nat.le_refl _) (.cells #[.string sec, .slice Aa na ca, .slice Ah nh ch, .slice A n c] 27)))
  have HU := Lib.hid (fun W (hb : Below w.heap.size w W) => (RowC.keep h (fun p hp => hb.cell (hS _ hp)) : SlU W S A us))
  have HN := Lib.hid hn
  have hz0 : w.heap.size + 1 ≤ (w.alloc (.cells #[.string sec, .slice Aa na ca, .slice Ah nh ch, .slice A n c] 27)).heap.size := by simp
  have HZ0 := Lib.hid hz0
  clear h hS hn hz0
  go_enter Tryz.func40, Tryz.ntmps40
  go_wp2_with fail
  go_loopw [8] (fun v wr => ∃ k : Nat, k ≤ n ∧ v = .int .i64 k ∧ ((us.take k).any (isU sc z)) = false ∧ wr.heap[w.heap.size]? = some (.cells #[.string sec, .slice Aa na ca, .slice Ah nh ch, .slice A n c] 27 (0, 0)) ∧ Below w.heap.size w wr) (fun v _ => n - (intOf v).toNat)
  case atStart => exact ⟨0, Nat.zero_le _, rfl, rfl, HB0.out.1, HB0.out.2⟩
  case round =>
    obtain ⟨k, hk, rfl, hany, hbx, hbl⟩ := hrel
    have HANY := Lib.hid hany
    have HBX := Lib.hid (And.intro hbx hbl)
    have x3 := cell_of_row _ _ 3 _ _ _ hbx
    clear hany hbx hbl HB0 HZ0
    by_cases hlt : k < n
    · obtain ⟨⟨s, p, q⟩, hx⟩ : ∃ x, us[k]? = some x := ⟨us[k]'(by rw [HN.out]; exact hlt), List.getElem?_eq_getElem _⟩
      obtain ⟨g, off, rfl, hsg, y0, y1, y2⟩ := SlU.at_ (HU.out wr HBX.out.2) hx
      have HX := Lib.hid hx
      have hil : (k : Int) < (n : Int) := by omega
      have HLT := Lib.hid hlt
      clear hx hlt hsg
      cases he : (s.toList == sc.toList) with
      | false =>
        have HE := Lib.hid he
        go_wp2_with fail
        go_roundw
        case rel => exact ⟨k + 1, HLT.out, by go_num, any_next HANY.out HX.out (by show (s.toList == sc.toList && p == z) = false; rw [HE.out]; rfl), HBX.out⟩
        case measure => have := HLT.out; simp only [intOf]; omega
      | true =>
        cases hp : (p == z) with
        | false =>
          have HE := Lib.hid hp
          go_wp2_with fail
          go_roundw
          case rel => exact ⟨k + 1, HLT.out, by go_num, any_next HANY.out HX.out (by show (s.toList == sc.toList && p == z) = false; rw [HE.out, Bool.and_false]), HBX.out⟩
          case measure => have := HLT.out; simp only [intOf]; omega
        | true =>
          have HF := Lib.hid (firstU HANY.out HX.out (show isU sc z (s, p, q) = true by unfold isU; dsimp only; rw [he, hp]; rfl))
          go_upto_region 5 with fail
          go_quiet (fail)
          go_wp2_with fail
          refine bodyPost_ret (v := .tuple #[.int .i64 k, .int .i64 q]) (by simp [results, Tryz.results40, go_sem]) rfl ?_
          refine ⟨?_, below_drewN HBX.out.2 _⟩
          rw [HF.out.2 0, Nat.zero_add]
          unfold cntU
          rw [HF.out.1]
    · obtain rfl : n = k := by omega
      have hf := HANY.out
      rw [List.take_of_length_le (by rw [HN.out]; exact Nat.le_refl _)] at hf
      have HF := Lib.hid (findU_none hf)
      clear hf
      go_wp2_with fail
      refine bodyPost_ret (v := .tuple #[.int .i64 (-1), .int .i64 0]) (by simp [results, Tryz.results40, go_sem]) rfl ?_
      refine ⟨?_, HBX.out.2⟩
      rw [idxU_none HF.out]
      unfold cntU
      rw [HF.out]
/-- The wallet that use hands back. -/
theorem walM_u {w wx w' : World} {S : Nat → Prop} {qs : List Az} {hs : List Hz} {us us' : List Uz} {Aa Ah Au A3 : Option Addr} {c3 n3 : Nat} (h : WalM w S qs hs us Aa Ah Au) (hS : ∀ g, S g → g < w.heap.size) (o : wx.ownsRow (w.heap.size + 3) 57 3 (.slice A3 n3 c3) n3 (cellsU us')) (hn : n3 = us'.length)
    (hb : Below w.heap.size w w') (hk : ∀ p : Addr, w.heap.size + 3 ≤ p.block → w'.cell? p = wx.cell? p) (hz : wx.heap.size ≤ w'.heap.size) : WalM w' (fun g => S g ∨ (w.heap.size ≤ g ∧ g < w'.heap.size)) qs hs us' Aa Ah A3 := by
  subst hn
  have h' := (h.keep (w' := w') (fun p hp => hb.cell (hS _ hp))).mono (S' := fun g => S g ∨ (w.heap.size ≤ g ∧ g < w'.heap.size)) (fun g hg => .inl hg)
  exact ⟨h'.a, h'.h, RowC.mono (RowC.keep (owns_row o) (fun p hp => hk p hp.1)) (fun g hg => .inr ⟨by have := hg.1; omega, Nat.lt_of_lt_of_le hg.2 hz⟩)⟩
theorem r56_use (sec : ByteArray) (qs : List Az) (hs : List Hz) (us : List Uz) (Aa Ah Au : Option Addr) (na ca nh ch nu cu : Nat) (s : ByteArray) (p c : Int) (S : Nat → Prop) (w : World) (hq : qs.length = na) (hn : hs.length = nh) (hu : us.length = nu) (hmu : nu < 4096) (h : WalM w S qs hs us Aa Ah Au) (hS : ∀ g, S g → g < w.heap.size) :
    Calls Tryz.prog 41 #[.agg #[.string sec, .slice Aa na ca, .slice Ah nh ch, .slice Au nu cu], .agg #[.string s, .int .i64 p, .int .i64 c]] w fun e w' => ∃ A1 c1 A2 c2 A3 n3 c3, e = .returned (.tuple #[.agg #[.string sec, .slice A1 na c1, .slice A2 nh c2, .slice A3 n3 c3], .int .i64 0]) ∧ n3 = (putU (s, p, c) us).length ∧ WalM w' (fun g => S g ∨ (w.heap.size ≤ g ∧ g < w'.heap.size)) qs hs (putU (s, p, c) us) A1 A2 A3 ∧ Below w.heap.size w w' := by
  have HF := Lib.hid (fun W (hb : Below w.heap.size w W) => r56_countOf us Au nu cu S sec Aa Ah na ca nh ch s p W hu (by omega) (by have := (h.keep (fun q hq => hb.cell (hS _ hq))).u; exact this) (fun g hg => Nat.lt_of_lt_of_le (hS g hg) hb.size))
  have HB0 := Lib.hid (UsB.start (w := w) (sec := sec) (Aa := Aa) (na := na) (ca := ca) (Ah := Ah) (nh := nh) (ch := ch) (Au := Au) (nu := nu) (cu := cu) (s := s) (p := p) (c := c))
  have HQ := Lib.hid (And.intro hq (And.intro hn hu))
  have HMM := Lib.hid (And.intro h hS)
  have HRU := Lib.hid (fun W (hb : Below w.heap.size w W) => RowC.reads (k := 3) (A := Au) (n := nu) (L := cellsU us) (by have := h.u; unfold SlU at this; rw [hu] at this; exact this) (by rw [cellsU_len, hu]) hS hb)
  have HONU := Lib.hid (cellsU_one us)
  have hl : w.heap.size ≤ w.heap.size + 1 + 1 := by omega
  have hwp : ∀ (W : World) (g i : Nat) (u : Value) (p : Addr), g < w.heap.size + 3 → w.heap.size + 3 ≤ p.block → (W.setCell ⟨g, i, none⟩ u).cell? p = W.cell? p := fun W g i u p hg hp => World.cell?_setCell_other _ _ _ _ (fun e => by have := congrArg Addr.block e; simp at this; omega)
  have HWP := Lib.hid hwp
  obtain ⟨ti, hi, hz, hs1, hb1⟩ := infoE_U
  clear h hS hq hn hwp
  cases hf : us.find? (isU s p) with
  | none =>
    have HP := Lib.hid (putU_none (u := (s, p, c)) hf)
    rw [idxU_none hf 0] at HF
    clear hf hu
    have k4 : (4096 ≤ (nu : Int)) = False := by simp; omega
    have k5 : decide ((4096 : Int) ≤ (nu : Int)) = false := decide_eq_false (by omega)
    go_enter Tryz.func41, Tryz.ntmps41
    go_upto_region 5 with (go_at_call 40; (with_reducible refine (HF.out _ HB0.out.bel).mono ?_); rintro e w1 ⟨rfl, hb1⟩; have HB1 := Lib.hid (HB0.out.next hb1); obtain ⟨⟨x0, x1, x2, x3⟩, y0, y1, y2, y3⟩ := HB1.out.bc; obtain ⟨z0, z1, z2⟩ := HB1.out.ac; clear hb1)
    go_wp2_with (at_builtin; go_loud (refine wpList_append_any _ rfl _ _ 25 rfl (w.heap.size + 3) 57 ti (.agg #[.string ByteArray.empty, .int .i64 0, .int .i64 0]) 3 32 Tryz.underlying25 hi hz hs1 hb1 rfl (by decide) (.slice none 0 0) 0 [] rfl (World.ownsRow_nil w1 _ _ _) _ Au nu _ (cellsU us) rfl (HRU.out w1 HB1.out.bel) HONU.out (by unfold maxLen; omega) (by omega) HB1.out.size ?_))
    intro v' w4 hown hgrow hv
    obtain ⟨A4, c4, rfl⟩ := owns_shape hown
    have HB4 := Lib.hid (HB1.out.next (below_grown hgrow (Nat.le_refl _) (fun g hg => by cases hg)))
    have HO4 : Hid (w4.ownsRow (w.heap.size + 3) 57 3 (.slice A4 nu c4) nu (cellsU us)) := Lib.hid (by simpa using hown)
    clear hown hgrow hv x0 x1 x2 x3 y0 y1 y2 y3 z0 z1 z2
    obtain ⟨⟨x0, x1, x2, x3⟩, y0, y1, y2, y3⟩ := HB4.out.bc
    obtain ⟨z0, z1, z2⟩ := HB4.out.ac
    go_upto_region 7 with fail
    have HONE : Hid (∀ u ∈ [Value.string s, .int .i64 p, .int .i64 c], u.oneCell' = true) := Lib.hid (cellsU_one [(s, p, c)])
    have HRN := Lib.hid (reads_new w4 [.string s, .int .i64 p, .int .i64 c] 57 3 rfl)
    have HOA := Lib.hid (owns_below HO4.out ((Below.refl _ w4).alloc (Nat.le_refl _) (.cells #[.string s, .int .i64 p, .int .i64 c] 57)))
    have HBA := Lib.hid (HB4.out.next ((Below.refl _ w4).alloc (Nat.le_refl _) (.cells #[.string s, .int .i64 p, .int .i64 c] 57)))
    go_wp2_with (at_builtin; go_loud (refine wpList_append_any _ rfl _ _ 25 rfl (w.heap.size + 3) 57 ti (.agg #[.string ByteArray.empty, .int .i64 0, .int .i64 0]) 3 32 Tryz.underlying25 hi hz hs1 hb1 rfl (by decide) (.slice A4 nu c4) nu (cellsU us) rfl HOA.out _ (some ⟨w4.heap.size, 0, none⟩) 1 _ [.string s, .int .i64 p, .int .i64 c] rfl HRN.out HONE.out (by unfold maxLen; omega) (by omega) (by have := HB4.out.size; simp; omega) ?_))
    intro v' w6 hown hgrow hv
    obtain ⟨A6, c6, rfl⟩ := owns_shape hown
    have HB6 := Lib.hid (HBA.out.far (below_grown hgrow (by have := HB4.out.size; simp; omega) (fun g hg => (HOA.out.lt g hg).1)))
    have HO6 : Hid (w6.ownsRow (w.heap.size + 3) 57 3 (.slice A6 (nu + 1) c6) (nu + 1) (cellsU (putU (s, p, c) us))) := Lib.hid (by rw [HP.out, cellsU_app]; exact hown)
    have HLN : Hid (nu + 1 = (putU (s, p, c) us).length) := Lib.hid (by rw [HP.out, List.length_append, HQ.out.2.2]; rfl)
    clear hown hgrow hv x0 x1 x2 x3 y0 y1 y2 y3 z0 z1 z2
    obtain ⟨⟨x0, x1, x2, x3⟩, y0, y1, y2, y3⟩ := HB6.out.bc
    obtain ⟨⟨r0, r1, r2, r3⟩, b0, b1, b2, b3⟩ := HB6.out.rc
    go_wp2_with fail
    refine bodyPost_ret (v := .tuple #[.agg #[.string sec, .slice Aa na ca, .slice Ah nh ch, .slice (A6) (nu + 1) (c6)], .int .i64 0]) (by simp [results, Tryz.results41, go_sem, r0, r1, r2, r3]) rfl ?_
    have hbb : Below w.heap.size w _ := ((((HB6.out.bel.setCell (p := ⟨w.heap.size, 3, none⟩) (Nat.le_refl _) (.slice (A6) (nu + 1) (c6))).setCell (p := ⟨w.heap.size + 1 + 1, 0, none⟩) hl (.string sec)).setCell (p := ⟨w.heap.size + 1 + 1, 1, none⟩) hl (.slice Aa na ca)).setCell (p := ⟨w.heap.size + 1 + 1, 2, none⟩) hl (.slice Ah nh ch)).setCell (p := ⟨w.heap.size + 1 + 1, 3, none⟩) hl (.slice (A6) (nu + 1) (c6))
    refine ⟨Aa, ca, Ah, ch, (A6), (nu + 1), (c6), rfl, HLN.out, walM_u (wx := w6) HMM.out.1 HMM.out.2 HO6.out HLN.out hbb ?_ (by simp), hbb⟩
    intro p' hp
    rw [HWP.out _ _ _ _ _ (by omega) hp, HWP.out _ _ _ _ _ (by omega) hp, HWP.out _ _ _ _ _ (by omega) hp, HWP.out _ _ _ _ _ (by omega) hp, HWP.out _ _ _ _ _ (by omega) hp]
  | some x =>
    obtain ⟨i, hi1, hin, hput⟩ := putU_some (u := (s, p, c)) hf 0
    rw [Nat.zero_add] at hi1
    have HP := Lib.hid hput
    rw [hi1] at HF
    have hil : (i : Int) < (nu : Int) := by rw [← hu]; omega
    have hil2 : i < nu := by rw [← hu]; exact hin
    have d1 : decide ((i : Int) < 0) = false := decide_eq_false (by omega)
    have d2 : ((i : Int) < 0) = False := by simp
    have HIN := Lib.hid hin
    clear hf hu hi1 hput hin
    go_enter Tryz.func41, Tryz.ntmps41
    go_upto_region 5 with (go_at_call 40; (with_reducible refine (HF.out _ HB0.out.bel).mono ?_); rintro e w1 ⟨rfl, hb1⟩; have HB1 := Lib.hid (HB0.out.next hb1); obtain ⟨⟨x0, x1, x2, x3⟩, y0, y1, y2, y3⟩ := HB1.out.bc; obtain ⟨z0, z1, z2⟩ := HB1.out.ac; clear hb1)
    go_wp2_with (at_builtin; go_loud (refine wpList_append_any _ rfl _ _ 25 rfl (w.heap.size + 3) 57 ti (.agg #[.string ByteArray.empty, .int .i64 0, .int .i64 0]) 3 32 Tryz.underlying25 hi hz hs1 hb1 rfl (by decide) (.slice none 0 0) 0 [] rfl (World.ownsRow_nil w1 _ _ _) _ Au nu _ (cellsU us) rfl (HRU.out w1 HB1.out.bel) HONU.out (by unfold maxLen; omega) (by omega) HB1.out.size ?_))
    intro v' w4 hown hgrow hv
    obtain ⟨A4, c4, rfl⟩ := owns_shape hown
    have HB4 := Lib.hid (HB1.out.next (below_grown hgrow (Nat.le_refl _) (fun g hg => by cases hg)))
    have HO4 : Hid (w4.ownsRow (w.heap.size + 3) 57 3 (.slice A4 nu c4) nu (cellsU us)) := Lib.hid (by simpa using hown)
    clear hown hgrow hv x0 x1 x2 x3 y0 y1 y2 y3 z0 z1 z2
    obtain ⟨⟨x0, x1, x2, x3⟩, y0, y1, y2, y3⟩ := HB4.out.bc
    obtain ⟨z0, z1, z2⟩ := HB4.out.ac
    obtain ⟨g3, rfl⟩ : ∃ g3, A4 = some ⟨g3, 0, none⟩ := by
      rcases HO4.out.2 with ⟨e, _⟩ | ⟨g, cap, cur, hv, _⟩
      · injection e with _ e; omega
      · injection hv with h1; exact ⟨g, h1⟩
    have hu3 := HO4.out
    have hl3 := cellsU_len us
    have k0 : w4.cell? ⟨g3, i * 3, none⟩ = some ((cellsU us)[i * 3]'(by have := HIN.out; omega)) := (hu3.cellAt (i * 3) (by omega)).trans (List.getElem?_eq_getElem _)
    have k1 : w4.cell? ⟨g3, i * 3 + 1, none⟩ = some ((cellsU us)[i * 3 + 1]'(by have := HIN.out; omega)) := (hu3.cellAt (i * 3 + 1) (by omega)).trans (List.getElem?_eq_getElem _)
    have k2 : w4.cell? ⟨g3, i * 3 + 2, none⟩ = some ((cellsU us)[i * 3 + 2]'(by have := HIN.out; omega)) := (hu3.cellAt (i * 3 + 2) (by omega)).trans (List.getElem?_eq_getElem _)
    have f0 := hu3.frozenAt (i * 3)
    have f1 := hu3.frozenAt (i * 3 + 1)
    have f2 := hu3.frozenAt (i * 3 + 2)
    obtain ⟨u0, hu0⟩ : ∃ u, (cellsU us)[i * 3]'(by have := HIN.out; omega) = u := ⟨_, rfl⟩
    obtain ⟨u1, hu1⟩ : ∃ u, (cellsU us)[i * 3 + 1]'(by have := HIN.out; omega) = u := ⟨_, rfl⟩
    obtain ⟨u2, hu2⟩ : ∃ u, (cellsU us)[i * 3 + 2]'(by have := HIN.out; omega) = u := ⟨_, rfl⟩
    rw [hu0] at k0
    rw [hu1] at k1
    rw [hu2] at k2
    have HB6' := Lib.hid (HB4.out.far ((((Below.refl _ w4).setCell (p := ⟨g3, i * 3, none⟩) (hu3.lt g3 rfl).1 (.string s)).setCell (p := ⟨g3, i * 3 + 1, none⟩) (hu3.lt g3 rfl).1 (.int .i64 p)).setCell (p := ⟨g3, i * 3 + 2, none⟩) (hu3.lt g3 rfl).1 (.int .i64 c)))
    have s1 := hu3.stored (i * 3) (.string s)
    have s2 := s1.1.stored (i * 3 + 1) (.int .i64 p)
    have s3 := s2.1.stored (i * 3 + 2) (.int .i64 c)
    rw [cellsU_set HIN.out, ← HP.out] at s3
    have HO6' := Lib.hid s3.1
    have HLN : Hid (nu = (putU (s, p, c) us).length) := Lib.hid (by rw [HP.out, List.length_set, HQ.out.2.2])
    clear hu3 hl3 hu0 hu1 hu2 s1 s2 s3
    go_upto_region 9 with fail
    clear x0 x1 x2 x3 y0 y1 y2 y3 z0 z1 z2 f0 f1 f2 k0 k1 k2
    obtain ⟨w6, hw6⟩ : ∃ w6, (((w4.setCell ⟨g3, i * 3, none⟩ (.string s)).setCell ⟨g3, i * 3 + 1, none⟩ (.int .i64 p)).setCell ⟨g3, i * 3 + 2, none⟩ (.int .i64 c)) = w6 := ⟨_, rfl⟩
    have HB6 : Hid (UsB w sec Aa na ca Ah nh ch Au nu cu s p c w6) := Lib.hid (by rw [← hw6]; exact HB6'.out)
    have HO6 : Hid (w6.ownsRow (w.heap.size + 3) 57 3 (.slice (some ⟨g3, 0, none⟩) nu c4) nu (cellsU (putU (s, p, c) us))) := Lib.hid (by rw [← hw6]; exact HO6'.out)
    rw [hw6]
    clear hw6 HB6' HO6'
    obtain ⟨⟨x0, x1, x2, x3⟩, y0, y1, y2, y3⟩ := HB6.out.bc
    obtain ⟨⟨r0, r1, r2, r3⟩, b0, b1, b2, b3⟩ := HB6.out.rc
    go_wp2_with fail
    refine bodyPost_ret (v := .tuple #[.agg #[.string sec, .slice Aa na ca, .slice Ah nh ch, .slice (some ⟨g3, 0, none⟩) (nu) (c4)], .int .i64 0]) (by simp [results, Tryz.results41, go_sem, r0, r1, r2, r3]) rfl ?_
    have hbb : Below w.heap.size w _ := ((((HB6.out.bel.setCell (p := ⟨w.heap.size, 3, none⟩) (Nat.le_refl _) (.slice (some ⟨g3, 0, none⟩) (nu) (c4))).setCell (p := ⟨w.heap.size + 1 + 1, 0, none⟩) hl (.string sec)).setCell (p := ⟨w.heap.size + 1 + 1, 1, none⟩) hl (.slice Aa na ca)).setCell (p := ⟨w.heap.size + 1 + 1, 2, none⟩) hl (.slice Ah nh ch)).setCell (p := ⟨w.heap.size + 1 + 1, 3, none⟩) hl (.slice (some ⟨g3, 0, none⟩) (nu) (c4))
    refine ⟨Aa, ca, Ah, ch, (some ⟨g3, 0, none⟩), (nu), (c4), rfl, HLN.out, walM_u (wx := w6) HMM.out.1 HMM.out.2 HO6.out HLN.out hbb ?_ (by simp), hbb⟩
    intro p' hp
    rw [HWP.out _ _ _ _ _ (by omega) hp, HWP.out _ _ _ _ _ (by omega) hp, HWP.out _ _ _ _ _ (by omega) hp, HWP.out _ _ _ _ _ (by omega) hp, HWP.out _ _ _ _ _ (by omega) hp]
end Go.Proofs.YtjhlddlocpkhkaaGreat
