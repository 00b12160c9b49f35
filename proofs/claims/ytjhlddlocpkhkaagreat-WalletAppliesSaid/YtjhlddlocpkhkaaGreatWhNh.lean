/- The reference: canonical, heldNumbers, SameNats, sameCredential; printed by genNh.py. -/
import Derived.Test.YtjhlddlocpkhkaaGreatWhJ08
import Derived.Test.YtjhlddlocpkhkaaGreatWhJ19
namespace Go.Proofs.YtjhlddlocpkhkaaGreat
open Go.RowKit
set_option maxRecDepth 100000
set_option linter.unusedVariables false
set_option maxHeartbeats 8000000
theorem r56_canonical (ls : List ByteArray) (A : Option Addr) (n c b : Nat) (w : World) (hn : ls.length = n) (hm : n ≤ 100000) (h : SLs w b A ls) :
    Calls Tryz.prog 71 #[.slice A n c] w fun e w' => e = .returned (.bool (ls.all valid)) ∧ w = w' := by
  obtain ⟨R, hR⟩ : ∃ R, ls.all valid = R := ⟨_, rfl⟩
  have HR0 : Hid ((ls.drop 0).all valid = R) := Lib.hid hR
  rw [hR]
  have HN := Lib.hid hn
  have HS := Lib.hid h
  have HV := Lib.hid r01_Valid
  clear h hn hR
  go_enter Tryz.func71, Tryz.ntmps71
  go_wp2_with fail
  go_loop [3] (fun v => ∃ k : Nat, k ≤ n ∧ (ls.drop k).all valid = R ∧ v = .int .i64 k) (fun v => n - (intOf v).toNat)
  case atStart => exact ⟨0, Nat.zero_le _, HR0.out, rfl⟩
  case round =>
    obtain ⟨k, hk, hr, rfl⟩ := hrel
    have HR := Lib.hid hr
    clear hr
    by_cases hlt : k < n
    · obtain ⟨ad, rfl, hc⟩ := HS.out.at_ (k := k) (by rw [HN.out]; exact hlt)
      obtain ⟨x, hx⟩ : ∃ x, ls.getD k ByteArray.empty = x := ⟨_, rfl⟩
      have hd : ls.drop k = x :: ls.drop (k + 1) := by
        have hl : k < ls.length := by rw [HN.out]; exact hlt
        rw [List.drop_eq_getElem_cons hl, ← hx, List.getD_eq_getElem?_getD, List.getElem?_eq_getElem hl]
        rfl
      have h1 := HR.out
      rw [hd, List.all_cons] at h1
      rw [hx] at hc
      have hil : (k : Int) < (n : Int) := by omega
      have HLT := Lib.hid hlt
      clear hd hx hlt
      cases hv : valid x with
      | false =>
        have HRF : Hid (false = R) := Lib.hid (by rw [← h1, hv]; rfl)
        have HVV := Lib.hid hv
        clear h1 hv
        go_wp2_with (go_at_call 70; (with_reducible refine (HV.out _ _).mono ?_); rintro e w5 ⟨rfl, rfl⟩; rw [HVV.out])
        go_ret
        exact ⟨by rw [← HRF.out]; rfl, rfl⟩
      | true =>
        have HRT : Hid ((ls.drop (k + 1)).all valid = R) := Lib.hid (by rw [← h1, hv]; rfl)
        have HVV := Lib.hid hv
        clear h1 hv
        go_wp2_with (go_at_call 70; (with_reducible refine (HV.out _ _).mono ?_); rintro e w5 ⟨rfl, rfl⟩; rw [HVV.out])
        go_round
        case rel => exact ⟨k + 1, HLT.out, HRT.out, by go_num⟩
        case measure => have := HLT.out; simp only [intOf]; omega
    · obtain rfl : n = k := by omega
      have HRT : Hid (true = R) := Lib.hid (by rw [← HR.out, List.drop_eq_nil_of_le (by rw [HN.out]; exact Nat.le_refl _)]; rfl)
      go_wp2_with fail
      go_ret
      exact ⟨by rw [← HRT.out]; rfl, rfl⟩
theorem r56_numbers (x : Hz) (A : Option Addr) (n c : Nat) (S : Nat → Prop) (w : World) (hn : x.att.length = n) (hm : n ≤ 100000) (h : RowC w S A n (cellsN x.att)) (hS : ∀ g, S g → g < w.heap.size) :
    Calls Tryz.prog 72 #[valH x A n c] w fun e w' => ∃ A' n' c', e = .returned (.slice A' n' c') ∧ n' = (numsH x).length ∧ SLs w' w'.heap.size A' (numsH x) ∧ Below w.heap.size w w' := by
  obtain ⟨iss, sch, ver, att, a, e, v, ep, wit⟩ := x
  obtain ⟨i, hi, hz, hs1, hb1⟩ := infoE_N
  dsimp only at hn h
  unfold valH
  dsimp only
  obtain ⟨W, hW⟩ : ∃ W, (((w.alloc (.cells #[.string iss, .string sch, .int .i64 ver, .slice A n c, .string a, .string e, .string v, .int .i64 ep, .string wit] 47)).alloc (.cells #[.string a, .string e, .string v] 43)).alloc (.cells #[.string a, .string e, .string v, .string wit] 22)) = W := ⟨_, rfl⟩
  have hbw : Below w.heap.size w W := by rw [← hW]; exact (((Below.refl w.heap.size w).alloc (Nat.le_refl _) _).alloc (by simp) _).alloc (by simp; omega) _
  have HR := Lib.hid (h.reads (k := 1) (by rw [cellsN_len, hn]) hS hbw)
  have hO := World.ownsRow_lit (e := 22) (size := 1) ((w.alloc (.cells #[.string iss, .string sch, .int .i64 ver, .slice A n c, .string a, .string e, .string v, .int .i64 ep, .string wit] 47)).alloc (.cells #[.string a, .string e, .string v] 43)) #[.string a, .string e, .string v, .string wit] 4 (base := w.heap.size) (by simp; omega) (by unfold maxLen; omega) rfl
  rw [hW, World.size_alloc, World.size_alloc] at hO
  have HO := Lib.hid hO
  have hsz : W.heap.size = w.heap.size + 3 := by rw [← hW]; simp
  have HZ := Lib.hid hsz
  have HBW := Lib.hid hbw
  rw [← hW] at HR HO HZ HBW
  have HN := Lib.hid hn
  have H1 := Lib.hid (cellsN_one att)
  clear h hS hn hbw hO hsz hW
  go_enter Tryz.func72, Tryz.ntmps72
  go_wp2_with (at_builtin; go_loud (refine wpList_append_any _ rfl _ _ 41 rfl w.heap.size 22 i (.string ByteArray.empty) 1 16 Tryz.underlying41 hi hz hs1 hb1 rfl (by decide) _ 4 [.string a, .string e, .string v, .string wit] rfl HO.out _ A n c (cellsN att) rfl HR.out H1.out (by unfold maxLen; omega) (by omega) (by simp; omega) ?_))
  intro v' w4 hown hgrow hv
  obtain ⟨A4, c4, rfl⟩ := owns_shape hown
  have hb4 : Below w.heap.size _ w4 := below_grown hgrow (by simp; omega) (fun g hg => (HO.out.lt g hg).1)
  have HB := Lib.hid (HBW.out.trans hb4)
  have HS : Hid (SLs w4 w4.heap.size A4 (numsH ⟨iss, sch, ver, att, a, e, v, ep, wit⟩)) := Lib.hid (by
    have hl : (numsH ⟨iss, sch, ver, att, a, e, v, ep, wit⟩).length = 4 + n := by unfold numsH; simp only [List.length_append]; rw [HN.out]; rfl
    have hc : [Value.string a, .string e, .string v, .string wit] ++ cellsN att = cellsN (numsH ⟨iss, sch, ver, att, a, e, v, ep, wit⟩) := by unfold cellsN numsH; simp
    have hown' : w4.ownsRow w.heap.size 22 1 (.slice A4 (4 + n) c4) (4 + n) (cellsN (numsH ⟨iss, sch, ver, att, a, e, v, ep, wit⟩)) := by
      rw [← hc]
      exact hown
    intro hne
    obtain ⟨g, off, e1, hg, hcell⟩ := owns_row hown' (by omega)
    refine ⟨_, e1, hg.2, fun j hj => ?_⟩
    rw [addr_add]
    refine hcell j _ ?_
    unfold cellsN
    rw [List.getElem?_map, List.getD_eq_getElem?_getD, List.getElem?_eq_getElem hj]
    rfl)
  have HL : Hid (4 + n = (numsH ⟨iss, sch, ver, att, a, e, v, ep, wit⟩).length) := Lib.hid (by unfold numsH; simp only [List.length_append]; rw [HN.out]; rfl)
  clear hown hgrow hv hb4
  go_wp2
  go_ret
  exact ⟨A4, _, c4, rfl, HL.out, HS.out, HB.out⟩
theorem r06_SameNatsE (a b : List ByteArray) (A B : Option Addr) (n m ca cb : Nat) (S : Nat → Prop) (w : World) (hn : a.length = n) (hm : b.length = m) (hmx : n ≤ 100000) (ha : RowC w S A n (cellsN a)) (hb : RowC w S B m (cellsN b)) (hS : ∀ g, S g → g < w.heap.size) :
    Calls Tryz.prog 111 #[.slice A n ca, .slice B m cb] w fun e w' => e = .returned (.bool (eqN a b)) ∧ Below w.heap.size w w' := by
  by_cases hne : n = m
  · subst hne
    have h0 : EqA w S A B a b w := ⟨by rw [hn]; exact ha, by rw [hm]; exact hb, Below.refl _ _⟩
    have H0 := Lib.hid h0
    obtain ⟨R, hR⟩ : ∃ R, eqN a b = R := ⟨_, rfl⟩
    have HR : Hid (eqN (a.drop 0) (b.drop 0) = R) := Lib.hid hR
    rw [hR]
    have HL := Lib.hid (And.intro hn (And.intro hm hS))
    clear ha hb hS h0 hn hm hR
    go_enter Tryz.func111, Tryz.ntmps111
    go_wp2_with fail
    go_loopw [5] (fun v wr => ∃ k : Nat, k ≤ n ∧ v = .int .i64 k ∧ eqN (a.drop k) (b.drop k) = R ∧ EqA w S A B a b wr) (fun v _ => n - (intOf v).toNat)
    case atStart => exact ⟨0, Nat.zero_le _, rfl, HR.out, H0.out⟩
    case round =>
      obtain ⟨k, hk, rfl, hx, hf⟩ := hrel
      have HX := Lib.hid hx
      have HF := Lib.hid hf
      clear hx hf
      by_cases hlt : k < n
      · obtain ⟨x, hx⟩ : ∃ u, a[k]? = some u := ⟨a[k]'(by rw [HL.out.1]; exact hlt), List.getElem?_eq_getElem _⟩
        obtain ⟨y, hy⟩ : ∃ u, b[k]? = some u := ⟨b[k]'(by rw [HL.out.2.1]; exact hlt), List.getElem?_eq_getElem _⟩
        obtain ⟨g, off, rfl, y0⟩ := row_at HF.out.l hx
        obtain ⟨g2, off2, rfl, y1⟩ := row_at HF.out.r hy
        have hda : a.drop k = x :: a.drop (k + 1) := by rw [List.drop_eq_getElem_cons (List.getElem?_eq_some_iff.1 hx).1, (List.getElem?_eq_some_iff.1 hx).2]
        have hdb : b.drop k = y :: b.drop (k + 1) := by rw [List.drop_eq_getElem_cons (List.getElem?_eq_some_iff.1 hy).1, (List.getElem?_eq_some_iff.1 hy).2]
        have hxx := HX.out
        rw [hda, hdb, eqN] at hxx
        have HLT := Lib.hid hlt
        have hil : (k : Int) < (n : Int) := by omega
        clear hx hy hda hdb hlt
        cases he : (x.toList == y.toList)
        · have HE := Lib.hid (by rw [he, Bool.false_and] at hxx; exact hxx : false = R)
          clear hxx
          go_upto_region 6 with fail
          go_quiet ((fail))
          go_wp2_with fail
          refine bodyPost_ret (v := .bool false) (by simp [results, Tryz.results111, go_sem]) rfl ?_
          exact ⟨by rw [← HE.out], HF.out.bel.trans (below_drewN (Below.refl _ _) _)⟩
        · have HE := Lib.hid (by rw [he, Bool.true_and] at hxx; exact hxx : eqN (a.drop (k + 1)) (b.drop (k + 1)) = R)
          clear hxx
          go_upto_region 6 with fail
          go_quiet ((fail))
          go_wp2_with fail
          go_roundw
          case rel =>
            exact ⟨k + 1, HLT.out, by go_num, HE.out, HF.out.l, HF.out.r, below_drewN HF.out.bel _⟩
          case measure => have := HLT.out; simp only [intOf]; omega
      · obtain rfl : n = k := by omega
        go_wp2_with fail
        refine bodyPost_ret (v := .bool true) (by simp [results, Tryz.results111, go_sem]) rfl ?_
        have hxx := HX.out
        rw [List.drop_of_length_le (by rw [HL.out.1]; exact Nat.le_refl _), List.drop_of_length_le (by rw [HL.out.2.1]; exact Nat.le_refl _)] at hxx
        exact ⟨by rw [← hxx]; rfl, HF.out.bel⟩
  · have d1 : decide (n = m) = false := decide_eq_false hne
    have d2 : ((n : Int) != (m : Int)) = true := by simp; omega
    rw [eqN_len (by omega)]
    go_enter Tryz.func111, Tryz.ntmps111
    go_wp2_with fail
    refine bodyPost_ret (v := .bool false) (by simp [results, Tryz.results111, go_sem]) rfl ?_
    exact ⟨rfl, Below.refl _ _⟩
theorem r56_same (x y : Hz) (A B : Option Addr) (n m ca cb : Nat) (S : Nat → Prop) (w : World) (hn : x.att.length = n) (hm : y.att.length = m) (hmx : n ≤ 100000) (ha : RowC w S A n (cellsN x.att)) (hb : RowC w S B m (cellsN y.att)) (hS : ∀ g, S g → g < w.heap.size) :
    Calls Tryz.prog 76 #[valC x A n ca, valC y B m cb] w fun e w' => e = .returned (.bool (sameH x y)) ∧ Below w.heap.size w w' := by
  unfold valC
  have HE := Lib.hid (fun W (hbl : Below w.heap.size w W) => r06_SameNatsE x.att y.att A B n m ca cb S W hn hm hmx (ha.keep (fun p hp => hbl.cell (hS _ hp))) (hb.keep (fun p hp => hbl.cell (hS _ hp))) (fun g hg => Nat.lt_of_lt_of_le (hS g hg) hbl.size))
  have HB0 : Hid (Below w.heap.size w ((w.alloc (.cells #[.string x.iss, .string x.sch, .int .i64 x.ver, .slice A n ca, .string x.a, .string x.e, .string x.v] 45)).alloc (.cells #[.string y.iss, .string y.sch, .int .i64 y.ver, .slice B m cb, .string y.a, .string y.e, .string y.v] 45))) := Lib.hid (((Below.refl _ _).alloc (Nat.le_refl _) _).alloc (by simp) _)
  clear ha hb hS
  obtain ⟨b1, h1⟩ : ∃ b, (x.iss.toList == y.iss.toList) = b := ⟨_, rfl⟩
  obtain ⟨b2, h2⟩ : ∃ b, (x.sch.toList == y.sch.toList) = b := ⟨_, rfl⟩
  obtain ⟨b3, h3⟩ : ∃ b, (x.ver == y.ver) = b := ⟨_, rfl⟩
  obtain ⟨b4, h4⟩ : ∃ b, (x.a.toList == y.a.toList) = b := ⟨_, rfl⟩
  obtain ⟨b5, h5⟩ : ∃ b, (x.e.toList == y.e.toList) = b := ⟨_, rfl⟩
  obtain ⟨b6, h6⟩ : ∃ b, (x.v.toList == y.v.toList) = b := ⟨_, rfl⟩
  unfold sameH
  rw [h1, h2, h3, h4, h5, h6]
  go_enter Tryz.func76, Tryz.ntmps76
  cases b1
  · go_wp2_with fail
    refine bodyPost_ret (v := .bool false) (by simp [results, Tryz.results76, go_sem]) rfl ?_
    exact ⟨rfl, HB0.out⟩
  · cases b2
    · go_wp2_with fail
      refine bodyPost_ret (v := .bool false) (by simp [results, Tryz.results76, go_sem]) rfl ?_
      exact ⟨rfl, HB0.out⟩
    · cases b3
      · go_wp2_with fail
        refine bodyPost_ret (v := .bool false) (by simp [results, Tryz.results76, go_sem]) rfl ?_
        exact ⟨rfl, HB0.out⟩
      · cases b4
        · go_wp2_with fail
          refine bodyPost_ret (v := .bool false) (by simp [results, Tryz.results76, go_sem]) rfl ?_
          exact ⟨rfl, HB0.out⟩
        · cases b5
          · go_wp2_with fail
            refine bodyPost_ret (v := .bool false) (by simp [results, Tryz.results76, go_sem]) rfl ?_
            exact ⟨rfl, HB0.out⟩
          · cases b6
            · go_wp2_with fail
              refine bodyPost_ret (v := .bool false) (by simp [results, Tryz.results76, go_sem]) rfl ?_
              exact ⟨rfl, HB0.out⟩
            · go_wp2_with (go_at_call 111; (with_reducible refine (HE.out _ HB0.out).mono ?_); rintro o w5 ⟨rfl, hb5⟩; have HB5 := Lib.hid hb5; clear hb5)
              refine bodyPost_ret (v := .bool (eqN x.att y.att)) (by simp [results, Tryz.results76, go_sem]) rfl ?_
              exact ⟨by simp, below2 HB0.out HB5.out⟩
end Go.Proofs.YtjhlddlocpkhkaaGreat
