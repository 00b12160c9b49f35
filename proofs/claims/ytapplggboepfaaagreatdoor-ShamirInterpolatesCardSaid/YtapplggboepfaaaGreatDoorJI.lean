/- The walk of the law ShamirInterpolates. -/
import Derived.Test.YtapplggboepfaaaGreatDoorSQ
import Derived.Test.YtapplggboepfaaaGreatDoorJq
namespace Go.Proofs.YtapplggboepfaaaGreatDoor
open Go.RowKit
set_option maxRecDepth 100000
set_option linter.unusedVariables false
set_option linter.unusedSimpArgs false
set_option maxHeartbeats 4000000

/-- The coefficients that Coefs answers. -/
def coefL (q : ByteArray) (xs ys : List ByteArray) : List ByteArray := if ptsE q xs ys ⟨#[]⟩ = 0 then (thruL (num q) (xs.map num) (ys.map num)).map B else []
theorem coef_post {q : ByteArray} {xs ys : List ByteArray} {n : Nat} (hn : xs.length = n) {e : Ending} {w w' : World}
    (h : ((ptsE q xs ys ⟨#[]⟩ = 0 ∧ ∃ g, e = .returned (.tuple #[.slice (some ⟨g, 0, none⟩) n n, .int .i64 0]) ∧ RowN w' g (thruL (num q) (xs.map num) (ys.map num))) ∨
      (ptsE q xs ys ⟨#[]⟩ ≠ 0 ∧ e = .returned (.tuple #[.slice none 0 0, .int .i64 (ptsE q xs ys ⟨#[]⟩)]))) ∧ Below w.heap.size w w') :
    (∃ A m cc, e = .returned (.tuple #[.slice A m cc, .int .i64 (ptsE q xs ys ⟨#[]⟩)]) ∧ (coefL q xs ys).length = m ∧ SLs w' w'.heap.size A (coefL q xs ys)) ∧ Below w.heap.size w w' := by
  obtain ⟨h, hb⟩ := h
  refine ⟨?_, hb⟩
  unfold coefL
  rcases h with ⟨h0, g, rfl, hr⟩ | ⟨h0, rfl⟩
  · rw [h0, if_pos rfl]
    exact ⟨_, _, _, rfl, by rw [List.length_map, thruL_length, List.length_map]; exact hn, hr.sls⟩
  · rw [if_neg h0]
    exact ⟨_, _, _, rfl, rfl, fun hh => absurd rfl hh⟩
theorem coefL_len {q : ByteArray} {xs ys : List ByteArray} : (coefL q xs ys).length ≤ xs.length := by
  unfold coefL
  by_cases h : ptsE q xs ys ⟨#[]⟩ = 0
  · rw [if_pos h, List.length_map, thruL_length, List.length_map]; exact Nat.le_refl _
  · rw [if_neg h]; exact Nat.zero_le _
theorem law19_Interpolates (q x : ByteArray) (xs ys : List ByteArray) (AX AY : Option Addr) (nX cX nY cY : Nat) (d : Int) (w : World) (hX : xs.length = nX) (hY : ys.length = nY) (h : SLs w w.heap.size AX xs) (h' : SLs w w.heap.size AY ys) (hT : Tab w) (hT10 : Tab10 w) :
    Calls Tryz.prog 5 #[.agg #[.string q, .slice AX nX cX, .slice AY nY cY, .string x, .int .i64 d]] w fun e w' => e = .returned (.bool true) ∧ Below w.heap.size w w' := by
  have KS := Lib.hid (fun wq (h1 : Below w.heap.size w wq) => law19_small q x xs ys AX AY nX cX nY cY d wq hX hY (h.to h1) (h'.to h1))
  have KA := Lib.hid (fun wq (h1 : Below w.heap.size w wq) => law19_awake wq (hT.below h1) (hT10.below h1))
  have HP := Lib.hid (PtB.start w q x AX nX cX AY nY cY d 46)
  obtain ⟨b, hb⟩ : ∃ b, b = smallP q x xs ys := ⟨_, rfl⟩
  rw [← hb] at KS
  cases b
  · clear hX hY h h' hT hT10 hb
    go_enter Tryz.func5, Tryz.ntmps5
    go_wp2_with (first
      | (go_at_call 14; (with_reducible refine (KS.out _ HP.out.bel).mono ?_); rintro e w1 ⟨rfl, hb1⟩; have HP1 := Lib.hid (HP.out.next hb1); clear hb1)
      | (go_at_call 6; (with_reducible refine (KA.out _ HP1.out.bel).mono ?_); rintro e w2 ⟨rfl, hb2⟩; have HP2 := Lib.hid (HP1.out.next hb2); clear hb2))
    go_ret
    exact ⟨rfl, HP2.out.bel⟩
  · have hl := small_lens hb.symm
    have KC := fun wq (h1 : Below w.heap.size w wq) => (shamir_Coefs q xs ys AX AY nX nY cX cY wq hX hY (by omega) (by omega) (h.to h1) (h'.to h1) (hT.below h1)).mono (fun e w' hh => coef_post hX hh)
    have KCR := fun wq (h1 : Below w.heap.size w wq) => (r19_Coefs q xs ys AX AY nX nY cX cY wq hX hY (by omega) (by omega) (h.to h1) (h'.to h1)).mono (fun e w' hh => coef_post hX hh)
    have KI := fun wq (h1 : Below w.heap.size w wq) => shamir_Interpolate q x xs ys AX AY nX nY cX cY wq hX hY (by omega) (by omega) (h.to h1) (h'.to h1) (hT.below h1)
    have KIR := fun wq (h1 : Below w.heap.size w wq) => r19_Interpolate q x xs ys AX AY nX nY cX cY wq hX hY (by omega) (by omega) (h.to h1) (h'.to h1)
    have KF := fun wq (h1 : Below w.heap.size w wq) => shamir_Fits q xs ys d AX AY nX nY cX cY wq hX hY (by omega) (by omega) (h.to h1) (h'.to h1) (hT.below h1)
    have KFR := fun wq (h1 : Below w.heap.size w wq) => r19_Fits q xs ys d AX AY nX nY cX cY wq hX hY (by omega) (by omega) (h.to h1) (h'.to h1)
    have hcl := @coefL_len q xs ys
    obtain ⟨e0, he0⟩ : ∃ e0, e0 = ptsE q xs ys ⟨#[]⟩ := ⟨_, rfl⟩
    obtain ⟨LL, hLL⟩ : ∃ LL, LL = coefL q xs ys := ⟨_, rfl⟩
    obtain ⟨i1, hi1⟩ : ∃ i1, i1 = (intS q xs ys x).1 := ⟨_, rfl⟩
    obtain ⟨i2, hi2⟩ : ∃ i2, i2 = (intS q xs ys x).2 := ⟨_, rfl⟩
    obtain ⟨f1, hf1⟩ : ∃ f1, f1 = (fitsS q xs ys d).1 := ⟨_, rfl⟩
    obtain ⟨f2, hf2⟩ : ∃ f2, f2 = (fitsS q xs ys d).2 := ⟨_, rfl⟩
    simp only [← he0, ← hLL] at KC KCR
    rw [← hi1, ← hi2] at KI KIR
    rw [← hf1, ← hf2] at KF KFR
    rw [← hLL] at hcl
    have HCL := Lib.hid (show LL.length ≤ 900 by omega)
    have KC := Lib.hid KC
    have KCR := Lib.hid KCR
    have KI := Lib.hid KI
    have KIR := Lib.hid KIR
    have KF := Lib.hid KF
    have KFR := Lib.hid KFR
    have KSM := Lib.hid (fun (A A' : Option Addr) (m c c' : Nat) wq (hm : LL.length = m) h1 h2 => r06_SameNats LL A A' m c c' wq hm (by rw [← hm]; exact HCL.out) h1 h2)
    clear hX hY h h' hT hT10 hb hl hcl he0 hLL hi1 hi2 hf1 hf2
    go_enter Tryz.func5, Tryz.ntmps5
    go_wp2_with (first
      | (go_at_call 14; (with_reducible refine (KS.out _ HP.out.bel).mono ?_); rintro e w1 ⟨rfl, hb1⟩; have HP1 := Lib.hid (HP.out.next hb1); obtain ⟨c0, c1, c2, c3, c4, _⟩ := HP1.out; clear hb1)
      | (go_at_call 15; (with_reducible refine (KC.out _ HP1.out.bel).mono ?_); rintro e w2 ⟨⟨A1, m1, k1, rfl, hm1, hs1⟩, hb2⟩; have HP2 := Lib.hid (HP1.out.next hb2); obtain ⟨c0, c1, c2, c3, c4, _⟩ := HP2.out; have HM1 := Lib.hid hm1; have HS1 := Lib.hid hs1; clear hb2 hm1 hs1)
      | (go_at_call 16; (with_reducible refine (KCR.out _ HP2.out.bel).mono ?_); rintro e w3 ⟨⟨A2, m2, k2, rfl, hm2, hs2⟩, hb3⟩; obtain rfl : m1 = m2 := HM1.out.symm.trans hm2; have HP3 := Lib.hid (HP2.out.next hb3); obtain ⟨c0, c1, c2, c3, c4, _⟩ := HP3.out; have HS13 := Lib.hid (HS1.out.to hb3); have HS23 := Lib.hid hs2; clear hb3 hm2 hs2)
      | (go_at_call 17; (with_reducible refine (KI.out _ HP3.out.bel).mono ?_); rintro e w4 ⟨rfl, hb4⟩; have HP4 := Lib.hid (HP3.out.next hb4); obtain ⟨c0, c1, c2, c3, c4, _⟩ := HP4.out; have HS14 := Lib.hid (HS13.out.to hb4); have HS24 := Lib.hid (HS23.out.to hb4); clear hb4)
      | (go_at_call 18; (with_reducible refine (KIR.out _ HP4.out.bel).mono ?_); rintro e w5 ⟨rfl, hb5⟩; have HP5 := Lib.hid (HP4.out.next hb5); obtain ⟨c0, c1, c2, c3, c4, _⟩ := HP5.out; have HS15 := Lib.hid (HS14.out.to hb5); have HS25 := Lib.hid (HS24.out.to hb5); clear hb5)
      | (go_at_call 19; (with_reducible refine (KF.out _ HP5.out.bel).mono ?_); rintro e w6 ⟨rfl, hb6⟩; have HP6 := Lib.hid (HP5.out.next hb6); obtain ⟨c0, c1, c2, c3, c4, _⟩ := HP6.out; have HS16 := Lib.hid (HS15.out.to hb6); have HS26 := Lib.hid (HS25.out.to hb6); clear hb6)
      | (go_at_call 20; (with_reducible refine (KFR.out _ HP6.out.bel).mono ?_); rintro e w7 ⟨rfl, hb7⟩; have HP7 := Lib.hid (HP6.out.next hb7); obtain ⟨c0, c1, c2, c3, c4, _⟩ := HP7.out; have HS17 := Lib.hid (HS16.out.to hb7); have HS27 := Lib.hid (HS26.out.to hb7); clear hb7)
      | (go_at_call 6; (with_reducible refine (KA.out _ HP7.out.bel).mono ?_); rintro e w8 ⟨rfl, hb8⟩; have HP8 := Lib.hid (HP7.out.next hb8); have HS18 := Lib.hid (HS17.out.to hb8); have HS28 := Lib.hid (HS27.out.to hb8); clear hb8)
      | (go_at_call 21; (with_reducible refine (KSM.out _ _ _ _ _ _ HM1.out HS18.out HS28.out).mono ?_); rintro e w9 ⟨rfl, hb9⟩; have HP9 := Lib.hid (HP8.out.next hb9); clear hb9))
    go_ret
    exact ⟨by simp, HP9.out.bel⟩

end Go.Proofs.YtapplggboepfaaaGreatDoor
