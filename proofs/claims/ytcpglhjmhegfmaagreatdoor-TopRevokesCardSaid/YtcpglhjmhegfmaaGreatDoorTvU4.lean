/- The walks of package power: one power of one element. -/
import Derived.Test.YtcpglhjmhegfmaaGreatDoorTvUU
import Derived.Test.YtcpglhjmhegfmaaGreatDoorTvII
import Derived.OneCell
namespace Go.Proofs.YtcpglhjmhegfmaaGreatDoor
open Go.RowKit
set_option maxRecDepth 100000
set_option linter.unusedVariables false
set_option maxHeartbeats 2000000
/-- The two rows of one element and one exponent, and the box of the group. -/
structure OneAt (g1 g2 : Nat) (X e : Nat) (wx : World) : Prop where
  c1 : wx.cell? ⟨g1, 0, none⟩ = some (.string (B X))
  c2 : wx.cell? ⟨g2, 0, none⟩ = some (.bool false)
  c3 : wx.cell? ⟨g2, 1, none⟩ = some (.string (B e))
  l1 : g1 < wx.heap.size
  l2 : g2 < wx.heap.size
theorem OneAt.next {wx w' : World} {g1 g2 X e : Nat} (h : OneAt g1 g2 X e wx) (hb : Below wx.heap.size wx w') : OneAt g1 g2 X e w' :=
  ⟨(hb.cell (p := ⟨g1, 0, none⟩) h.l1).trans h.c1, (hb.cell (p := ⟨g2, 0, none⟩) h.l2).trans h.c2, (hb.cell (p := ⟨g2, 1, none⟩) h.l2).trans h.c3, Nat.lt_of_lt_of_le h.l1 hb.size, Nat.lt_of_lt_of_le h.l2 hb.size⟩
theorem OneAt.alloc {wx : World} {g1 g2 X e : Nat} (h : OneAt g1 g2 X e wx) (o : Obj) : OneAt g1 g2 X e (wx.alloc o) := h.next ((Below.refl _ _).alloc (Nat.le_refl _) _)
theorem GrAt.alloc {w wx : World} {g : Nat} {m o : ByteArray} (h : GrAt w g m o wx) (ob : Obj) : GrAt w g m o (wx.alloc ob) := h.next ((Below.refl _ _).alloc (Nat.le_refl _) _)
theorem power_checked1 (m o : ByteArray) (X e g1 g2 : Nat) (w : World) (sm : m.size ≤ 8) (hg : groupE m o = 0) (hx : hasG m o (B X) = true) (he : e < lim) (hat : OneAt g1 g2 X e w) :
    Calls Tryz.prog 68 #[.agg #[.string m, .string o], .slice (some ⟨g1, 0, none⟩) 1 1, .slice (some ⟨g2, 0, none⟩) 1 1, .bool true] w fun r w' => r = .returned (.int .i64 0) ∧ Below w.heap.size w w' := by
  have HS := Lib.hid (GrAt.box w m o 24)
  have HA := Lib.hid (hat.alloc (.cells #[.string m, .string o] 24))
  have hvx := (hasG_lt sm hx).1
  have hck := fun w => power_Check m o w sm
  rw [hg] at hck
  have HCK := Lib.hid hck
  have hha := fun w => power_has m o (B X) w sm
  rw [hx] at hha
  have HHA := Lib.hid hha
  have hve := valid_B he
  have hvi := fun w => integer_Valid false (B e) w
  rw [hve] at hvi
  have HVI := Lib.hid hvi
  have a1 := HA.out.c1
  have a2 := HA.out.c2
  have a3 := HA.out.c3
  have HL1 := Lib.hid hat.l1
  clear hg hx hck hha he hat hve hvi
  go_enter Tryz.func68, Tryz.ntmps68
  go_wp2
  refine wp_loop_rounds 2 ?_
  rw [rounds_succ]
  go_wp2_with (first | (go_at_call 13; refine (natural_Valid _ _).mono ?_; rintro e' w' ⟨rfl, rfl⟩))
  rw [rounds_succ]
  go_wp2
  refine wp_loop_rounds 2 ?_
  rw [rounds_succ]
  go_wp2_with (first | (go_at_call 79; (with_reducible refine (HVI.out _).mono ?_); rintro e' w1 ⟨rfl, hb1⟩))
  have b1 : Below (w.alloc (Obj.cells #[Value.string m, Value.string o] 24)).heap.size (w.alloc (Obj.cells #[Value.string m, Value.string o] 24)) w1 :=
    below_box' hb1
  have H1 := Lib.hid (HS.out.next b1)
  have HA1 := Lib.hid (HA.out.next b1)
  have d0 := H1.out.c0
  have d1 := H1.out.c1
  have d2 := HA1.out.c1
  clear hb1 b1 a1 a2 a3
  rw [rounds_succ]
  go_wp2_with (first | (go_at_call 29; (with_reducible refine (HCK.out _).mono ?_); rintro e' w2 ⟨rfl, hb2⟩; have n2 := H1.out.next hb2; have p2 := n2.c0; have q2 := n2.c1; have m2 := HA1.out.next hb2; have r2 := m2.c1; have H2 := Lib.hid n2; have HA2 := Lib.hid m2; clear n2 m2 hb2))
  refine wp_loop_rounds 2 ?_
  rw [rounds_succ]
  go_wp2_with (first | (go_at_call 46; (with_reducible refine (HHA.out _).mono ?_); rintro e' w3 ⟨rfl, hb3⟩))
  rw [rounds_succ]
  go_wp2
  go_ret
  exact ⟨rfl, (H2.out.next hb3).below⟩
/-- The closure of Product: one factor more. -/
def TimesAt (w : World) (O G : Nat) (y : Nat) (m : ByteArray) : Prop := w.cell? ⟨O, 0, none⟩ = some (.string (B y)) ∧ w.frozen? ⟨O, 0, none⟩ = false ∧ w.cell? ⟨G, 0, none⟩ = some (.string m) ∧ O < w.heap.size ∧ G < w.heap.size
def TimesPost (w : World) (O : Nat) (z : Nat) (r : Ending) (w' : World) : Prop := r = .returned (.tuple #[]) ∧ ∃ w1, Below w.heap.size w w1 ∧ w' = w1.setCell ⟨O, 0, none⟩ (.string (B z))
theorem power_times (O G x y M : Nat) (w : World) (hy : y < 18446744073709551616) (hx : x < 18446744073709551616) (hM : M < 18446744073709551616) (h0 : 0 < M) (hat : TimesAt w O G y (B M)) :
    Calls Tryz.prog 71 #[.string (B x), .pointer (some ⟨O, 0, none⟩), .pointer (some ⟨G, 0, none⟩)] w (TimesPost w O (y * x % M)) := by
  have HM := Lib.hid (fun w => modular_Mul y x M w hy hx hM h0)
  obtain ⟨c0, f0, c1, l0, l1⟩ := hat
  have HL := Lib.hid l0
  clear hy hx hM h0 l0
  generalize y * x % M = z at *
  go_enter Tryz.func71, Tryz.ntmps71
  go_wp2_with (first | (go_at_call 72; (with_reducible refine (HM.out _).mono ?_); rintro e' w1 ⟨rfl, hb1⟩; have hc1 := (hb1.cell (p := ⟨O, 0, none⟩) HL.out).trans c0; have hf1 := (hb1.frozen (p := ⟨O, 0, none⟩) HL.out).trans f0))
  exact bodyPost_ret (v := .tuple #[]) (by simp [results, Tryz.results71, go_sem]) rfl ⟨rfl, w1, hb1, rfl⟩
/-- What Product carries round its loops: the group, the base, the exponent, and the product so far. -/
structure ProdAt (w : World) (G L g2 O : Nat) (M X e y : Nat) (wr : World) : Prop where
  cG : wr.cell? ⟨G, 0, none⟩ = some (.string (B M))
  cL : wr.cell? ⟨L, 0, none⟩ = some (.string (B X))
  cE : wr.cell? ⟨g2, 1, none⟩ = some (.string (B e))
  cO : wr.cell? ⟨O, 0, none⟩ = some (.string (B y))
  fO : wr.frozen? ⟨O, 0, none⟩ = false
  lG : G < O
  lL : L < O
  lE : g2 < O
  lO : O < wr.heap.size
  hO : w.heap.size ≤ O
  below : Below w.heap.size w wr
theorem ProdAt.step {w wr w1 w' : World} {G L g2 O M X e y z : Nat} (h : ProdAt w G L g2 O M X e y wr) (hb : Below wr.heap.size wr w1) (hw : w' = w1.setCell ⟨O, 0, none⟩ (.string (B z))) : ProdAt w G L g2 O M X e z w' := by
  subst hw
  have hz := hb.size
  have l1 := h.lG
  have l2 := h.lL
  have l3 := h.lE
  have l4 := h.lO
  refine ⟨?_, ?_, ?_, ?_, ?_, l1, l2, l3, by simp; omega, h.hO, (below2 h.below hb).setCell h.hO _⟩
  · exact (World.cell?_setCell_other _ _ _ _ (by intro e; injection e; omega)).trans ((hb.cell (p := ⟨G, 0, none⟩) (by show G < _; omega)).trans h.cG)
  · exact (World.cell?_setCell_other _ _ _ _ (by intro e; injection e; omega)).trans ((hb.cell (p := ⟨L, 0, none⟩) (by show L < _; omega)).trans h.cL)
  · exact (World.cell?_setCell_other _ _ _ _ (by intro e; injection e; omega)).trans ((hb.cell (p := ⟨g2, 1, none⟩) (by show g2 < _; omega)).trans h.cE)
  · exact World.cell?_setCell_same _ _ _ ((hb.cell (p := ⟨O, 0, none⟩) l4).trans h.cO)
  · rw [World.frozen?_setCell]; exact (hb.frozen (p := ⟨O, 0, none⟩) l4).trans h.fO
theorem ProdAt.times {w wr : World} {G L g2 O M X e y : Nat} (h : ProdAt w G L g2 O M X e y wr) : TimesAt wr O G y (B M) :=
  ⟨h.cO, h.fO, h.cG, h.lO, Nat.lt_trans h.lG h.lO⟩
theorem hasG_two {m o x : ByteArray} (hg : groupE m o = 0) (h : hasG m o x = true) : 1 < num m := by
  unfold groupE at hg
  split at hg
  · rename_i hv
    rw [Bool.and_eq_true] at hv
    split at hg
    · split at hg
      · rename_i h8
        simp only [Bool.and_eq_true, decide_eq_true_eq] at h8
        have h9 := h8.2
        unfold natCmp at h9
        rw [hv.1, valid_B (u64_lt_lim (by decide)), num_B] at h9
        have : ¬ num m < 8 := fun hlt => by
          have := (cmpN_neg (x := num m) (y := 8)).2 hlt
          simp only [Bool.and_self, if_true] at h9
          omega
        omega
      · cases hg
    · split at hg
      · cases hg
      · omega
  · cases hg
theorem power_Product1 (m o : ByteArray) (X e g1 g2 : Nat) (w : World) (sm : m.size ≤ 8) (hg : groupE m o = 0) (hx : hasG m o (B X) = true) (he : e < lim) (hat : OneAt g1 g2 X e w) :
    Calls Tryz.prog 47 #[.agg #[.string m, .string o], .slice (some ⟨g1, 0, none⟩) 1 1, .slice (some ⟨g2, 0, none⟩) 1 1] w fun r w' => r = .returned (.tuple #[.string (B (X ^ e % num m)), .int .i64 0]) ∧ Below w.heap.size w w' := by
  have hm2 := hasG_two hg hx
  have HCK := Lib.hid (fun w hat => power_checked1 m o X e g1 g2 w sm hg hx he hat)
  have hlt := hasG_lt sm hx
  rw [num_B] at hlt
  have hpa : powL X (num m) (bitsL (B e)) = X ^ e % num m := by
    have := powL_all X (num m) (B e) (valid_B he)
    rwa [Nat.mod_eq_of_lt hlt.2.2.1, num_B] at this
  have em := B_num hlt.2.1
  obtain ⟨M, hM⟩ : ∃ M, num m = M := ⟨_, rfl⟩
  rw [hM] at hm2 hlt hpa em ⊢
  subst em
  have hpl := powL_lt X M (by omega)
  have h1M : 1 % M = 1 := Nat.mod_eq_of_lt hm2
  have HTM := Lib.hid (fun O G x y w (hy : y < M) (hx : x < M) hat => power_times O G x y M w (Nat.lt_trans hy hlt.2.2.2) (Nat.lt_trans hx hlt.2.2.2) hlt.2.2.2 (Nat.lt_trans (by decide) hm2) hat)
  have HXM := Lib.hid hlt.2.2.1
  have HPL := Lib.hid hpl
  have HPA := Lib.hid hpa
  have H1M := Lib.hid h1M
  have HS := Lib.hid (GrAt.box w (B M) o 24)
  have HA := Lib.hid (hat.alloc (.cells #[.string (B M), .string o] 24))
  have HL1 := Lib.hid hat.l1
  have HL2 := Lib.hid hat.l2
  have hnb := natBits_le (valid_B he)
  obtain ⟨nb, hNB⟩ : ∃ nb, natBits (B e) = nb := ⟨_, rfl⟩
  have hbits := natural_Bits (B e)
  rw [hNB] at hbits hnb
  have HBITS := Lib.hid hbits
  have HNB := Lib.hid hNB
  obtain ⟨R, hR⟩ : ∃ R, X ^ e % M = R := ⟨_, rfl⟩
  rw [hR] at HPA ⊢
  have HSZ := Lib.hid (show (B e).size ≤ 100000 from by have := valid_B he; unfold valid at this; simp only [Bool.and_eq_true, decide_eq_true_eq] at this; omega)
  clear hg hx he hat hlt hpa hM hpl h1M hm2 hbits hNB hR
  have hmk : ∀ w, (Instr.makeSlice 25 (.int .i64 1) (.int .i64 1)).run Tryz.prog w = .ok (.slice (some ⟨w.heap.size, 0, none⟩) 1 1) (w.alloc (.cells #[.string ⟨#[]⟩] 22)) := fun _ => by kernel_rfl
  go_enter Tryz.func47, Tryz.ntmps47
  go_wp2_with (first | (go_at_call 68; (with_reducible refine (HCK.out _ HA.out).mono ?_); rintro e' w1 ⟨rfl, hb1⟩; have n1 := HS.out.next hb1; have m1 := HA.out.next hb1; have H1 := Lib.hid n1; have HA1 := Lib.hid m1; have p1 := m1.c1; clear n1 m1 hb1))
  refine wp_loop_rounds 2 ?_
  rw [rounds_succ]
  have a1 := HA1.out.alloc (.cells #[.string ⟨#[]⟩] 22)
  have b1 := H1.out.alloc (.cells #[.string ⟨#[]⟩] 22)
  have q1 := a1.c1
  have q2 := a1.c2
  have q3 := a1.c3
  have q4 := b1.c0
  have ne1 : ¬ g2 = w1.heap.size := Nat.ne_of_lt HA1.out.l2
  have ne2 : ¬ w1.heap.size = g2 := fun h => ne1 h.symm
  have a2 := HA1.out.alloc (.cells #[.string (B X)] 22)
  have b2 := H1.out.alloc (.cells #[.string (B X)] 22)
  have r1 := a2.c1
  have r2 := a2.c2
  have r3 := a2.c3
  have r4 := b2.c0
  have HA2 := Lib.hid a2
  have HB2 := Lib.hid b2
  clear a1 b1 p1 a2 b2
  go_wp2_with (first | (go_at_call 70; (with_reducible refine (HBITS.out _).mono ?_); rintro e' w' ⟨rfl, rfl⟩))
  rw [rounds_succ]
  go_wp2_with (first | (go_at_call 12; (with_reducible refine (natural_Of' 1 1 _ rfl (by decide)).mono ?_); rintro e' w2 ⟨rfl, hb2⟩))
  have hl2 : g2 < w.heap.size := HL2.out
  have hz1 : w.heap.size < w1.heap.size := H1.out.size
  have hz2 : w1.heap.size < w2.heap.size := by have := hb2.size; simp at this; omega
  have hP0 : ProdAt w w.heap.size w1.heap.size g2 w2.heap.size M X e 1 (w2.alloc (.cells #[.string (B 1)] 22)) := by
    have bW : Below w2.heap.size w2 (w2.alloc (.cells #[.string (B 1)] 22)) := (Below.refl _ _).alloc (Nat.le_refl _) _
    have x1 := (HB2.out.next hb2).next bW
    have x2 := (HA2.out.next hb2).next bW
    have x3 : w2.cell? ⟨w1.heap.size, 0, none⟩ = some (.string (B X)) := (hb2.cell (p := ⟨w1.heap.size, 0, none⟩) (by simp)).trans (by simp [go_sem])
    exact ⟨x1.c0, (bW.cell (p := ⟨w1.heap.size, 0, none⟩) hz2).trans x3, x2.c3, by simp [go_sem], by simp [go_sem], by omega, hz2, by omega, by simp, by omega, x1.below⟩
  have HP0 := Lib.hid hP0
  obtain ⟨G, hG⟩ : ∃ G, w.heap.size = G := ⟨_, rfl⟩
  obtain ⟨L, hL⟩ : ∃ L, w1.heap.size = L := ⟨_, rfl⟩
  obtain ⟨O, hO⟩ : ∃ O, w2.heap.size = O := ⟨_, rfl⟩
  obtain ⟨W, hW⟩ : ∃ W, w2.alloc (.cells #[.string (B 1)] 22) = W := ⟨_, rfl⟩
  rw [hG, hL, hO, hW] at HP0
  rw [hG, hL, hO, hW]
  clear hW hO hL hG hP0 hz2 hz1 hl2 hb2 HB2 HA2 HA1 H1 q1 q2 q3 q4 r1 r2 r3 r4 ne1 ne2 HL1 HL2 HS HA hmk
  go_loopw [17] (fun v wr => ∃ (k y : Nat) (z : Int), v = .int .i64 z ∧ z = (nb : Int) - 1 - k ∧ k ≤ nb ∧ y = powL X M ((bitsL (B e)).take k) ∧ ProdAt w G L g2 O M X e y wr) (fun v _ => (intOf v + 1).toNat)
  case atStart => exact ⟨0, 1, (nb : Int) - 1, rfl, by omega, by omega, by rw [List.take_zero]; exact H1M.out.symm, HP0.out⟩
  case round =>
    obtain ⟨k, y, z, rfl, hz, hk, hy, hP⟩ := hrel
    have HZ := Lib.hid hz
    have HY := Lib.hid hy
    have hym : y < M := by rw [hy]; exact HPL.out _
    have HYM := Lib.hid hym
    have HP := Lib.hid hP
    clear hz hy hym hP
    by_cases hlt : k < nb
    · have hz0 : 0 ≤ z := by have := HZ.out; omega
      have hz1 : z ≤ 2000 := by have := HZ.out; omega
      have cO := HP.out.cO
      have cL := HP.out.cL
      obtain ⟨i, hi⟩ : ∃ i : Nat, nb - 1 - k = i := ⟨_, rfl⟩
      have HI := Lib.hid (show z = (i : Int) by have := HZ.out; omega)
      have HI2 := Lib.hid (show i ≤ 100000 by omega)
      have hst := bitsL_take_succ (B e) k (by rw [HNB.out]; exact hlt)
      rw [HNB.out, hi] at hst
      have hsn := powL_snoc X M ((bitsL (B e)).take k) (natBit (B e) i)
      rw [← hst, ← HY.out] at hsn
      have HSN := Lib.hid hsn
      have HLT := Lib.hid hlt
      clear hst hsn hi hlt
      cases hbit : natBit (B e) i
      · have HB := Lib.hid hbit
        clear hbit
        go_wp2_with (first | (go_at_call 71; (with_reducible refine (HTM.out O G y y wr HYM.out HYM.out HP.out.times).mono ?_); rintro e' w5 ⟨rfl, v5, hb5, hw5⟩; have HP5 := Lib.hid (HP.out.step hb5 hw5); clear hb5 hw5 cO; have cO5 := HP5.out.cO; have cL5 := HP5.out.cL; have cE5 := HP5.out.cE))
        refine wp_loop_rounds 2 ?_
        rw [rounds_succ]
        go_wp2_with (first | (go_at_call 44; (with_reducible refine (natural_Bit (B e) _ i _ HI.out HI2.out HSZ.out).mono ?_); rw [HB.out]; rintro e' w' ⟨rfl, rfl⟩))
        rw [rounds_succ]
        go_wp2_with fail
        go_roundw
        case rel => exact ⟨k + 1, y * y % M, z - 1, rfl, by have := HZ.out; omega, by have := HLT.out; omega, by rw [HSN.out, HB.out]; rfl, HP5.out⟩
        case measure => simp only [intOf]; omega
      · have HB := Lib.hid hbit
        clear hbit
        have HQM := Lib.hid (show y * y % M < M from Nat.mod_lt _ (Nat.lt_of_le_of_lt (Nat.zero_le _) HYM.out))
        go_wp2_with (first | (go_at_call 71; (with_reducible refine (HTM.out O G y y wr HYM.out HYM.out HP.out.times).mono ?_); rintro e' w5 ⟨rfl, v5, hb5, hw5⟩; have HP5 := Lib.hid (HP.out.step hb5 hw5); clear hb5 hw5 cO; have cO5 := HP5.out.cO; have cL5 := HP5.out.cL; have cE5 := HP5.out.cE))
        refine wp_loop_rounds 2 ?_
        rw [rounds_succ]
        go_wp2_with (first | (go_at_call 44; (with_reducible refine (natural_Bit (B e) _ i _ HI.out HI2.out HSZ.out).mono ?_); rw [HB.out]; rintro e' w' ⟨rfl, rfl⟩) | (go_at_call 71; (with_reducible refine (HTM.out O G X (y * y % M) w5 HQM.out HXM.out HP5.out.times).mono ?_); rintro e' w6 ⟨rfl, v6, hb6, hw6⟩; have HP6 := Lib.hid (HP5.out.step hb6 hw6); clear hb6 hw6 cO5; have cO6 := HP6.out.cO))
        rw [rounds_succ]
        go_wp2_with fail
        go_roundw
        case rel => exact ⟨k + 1, y * y % M * X % M, z - 1, rfl, by have := HZ.out; omega, by have := HLT.out; omega, by rw [HSN.out, HB.out]; rfl, HP6.out⟩
        case measure => simp only [intOf]; omega
    · have hz0 : z = -1 := by have := HZ.out; omega
      subst hz0
      have cO := HP.out.cO
      go_wp2_with fail
      go_ret2
      have hk' : (bitsL (B e)).take k = bitsL (B e) := by rw [List.take_of_length_le]; rw [bitsL_length, HNB.out]; have := HZ.out; omega
      exact ⟨ret_se (by rw [HY.out, hk', HPA.out]) rfl, HP.out.below⟩
theorem power_Exp (m o : ByteArray) (X e : Nat) (w : World) (sm : m.size ≤ 8) (hg : groupE m o = 0) (hx : hasG m o (B X) = true) (he : e < lim) :
    Calls Tryz.prog 31 #[.agg #[.string m, .string o], .string (B X), .agg #[.bool false, .string (B e)]] w fun r w' => r = .returned (.tuple #[.string (B (X ^ e % num m)), .int .i64 0]) ∧ Below w.heap.size w w' := by
  have hat : OneAt (w.heap.size + 1 + 1) (w.heap.size + 1 + 1 + 1) X e ((((w.alloc (.cells #[.string m, .string o] 24)).alloc (.cells #[.bool false, .string (B e)] 78)).alloc (.cells #[.string (B X)] 22)).alloc (.cells #[.bool false, .string (B e)] 78)) :=
    ⟨by simp [go_sem], by simp [go_sem], by simp [go_sem], by simp, by simp⟩
  have HP := Lib.hid (power_Product1 m o X e _ _ _ sm hg hx he hat)
  clear hat hg hx he
  generalize X ^ e % num m = R at *
  go_enter Tryz.func31, Tryz.ntmps31
  go_wp2_with (first | (go_at_call 47; (with_reducible refine HP.out.mono ?_); rintro e' w1 ⟨rfl, hb1⟩))
  go_ret2
  exact ⟨rfl, ((((((Below.refl w.heap.size w).alloc (Nat.le_refl _) _).alloc (by simp) _).alloc (by simp; omega) _).alloc (by simp; omega) _)).trans (hb1.mono (by simp; omega))⟩
end Go.Proofs.YtcpglhjmhegfmaaGreatDoor
