/- The law RsagroupClosed returns true. -/
import Derived.Test.YtgbkjicpmjncaaaDoorA2
import Derived.Test.YtgbkjicpmjncaaaDoorJn
import Derived.Deep.RegionHeld3
import Derived.Deep.DeepCutAuto
import Derived.Deep.CutBlock
namespace Go.Proofs.YtgbkjicpmjncaaaDoor
open Go.RowKit
set_option maxRecDepth 100000
set_option linter.unusedVariables false
set_option maxHeartbeats 4000000

theorem few5 {m p q x y : ByteArray} (h : fewS [m, p, q, x, y] = true) : m.size ≤ 8 ∧ p.size ≤ 8 ∧ q.size ≤ 8 ∧ x.size ≤ 8 ∧ y.size ≤ 8 := by
  unfold fewS at h
  simp only [List.all_cons, List.all_nil, Bool.and_true, Bool.and_eq_true, decide_eq_true_eq] at h
  exact ⟨h.1, h.2.1, h.2.2.1, h.2.2.2.1, h.2.2.2.2⟩
theorem Tab.drew {w : World} (h : Tab w) : Tab w.drew := h.below ((Below.refl _ _).drew)
/-- The copies of the case's group and trapdoor, and its element, in memory. -/
structure ClAt (w : World) (m o p q x : ByteArray) (G T : Nat) (wx : World) : Prop where
  c0 : wx.cell? ⟨G, 0, none⟩ = some (.string m)
  c1 : wx.cell? ⟨G, 1, none⟩ = some (.string o)
  d0 : wx.cell? ⟨T, 0, none⟩ = some (.string p)
  d1 : wx.cell? ⟨T, 1, none⟩ = some (.string q)
  ex : wx.cell? ⟨w.heap.size, 4, none⟩ = some (.string x)
  tab : Tab wx
  below : Below w.heap.size w wx
  sg : G < wx.heap.size
  st : T < wx.heap.size
  sz : w.heap.size < wx.heap.size
theorem ClAt.next {w wx w' : World} {m o p q x : ByteArray} {G T : Nat} (h : ClAt w m o p q x G T wx) (hb : Below wx.heap.size wx w') : ClAt w m o p q x G T w' := by
  have hs := hb.size
  have h1 := h.sg
  have h2 := h.st
  have h3 := h.sz
  exact ⟨(hb.cell (p := ⟨G, 0, none⟩) h1).trans h.c0, (hb.cell (p := ⟨G, 1, none⟩) h1).trans h.c1, (hb.cell (p := ⟨T, 0, none⟩) h2).trans h.d0, (hb.cell (p := ⟨T, 1, none⟩) h2).trans h.d1, (hb.cell (p := ⟨w.heap.size, 4, none⟩) h3).trans h.ex, h.tab.below hb, below2 h.below hb, by omega, by omega, by omega⟩
/-- The facts of the main way. -/
theorem isSquare_elem {m o p q x : ByteArray} (hv : valid x = true) (hc : checkS m o p q = 0) (hh : hasS m o x = true) : isSquareS m o p q x = (sqB (num x) (num p) (num q), 0) := by
  have he : elementS m o p q x = 0 := by unfold elementS; rw [hv, hc, hh]; rfl
  unfold isSquareS
  rw [he]
  rfl
theorem has_mul {m o : ByteArray} {a b : Nat} (sm : m.size ≤ 8) (hg : goodS m o = true) (ha : Nat.gcd a (num m) = 1) (hb : Nat.gcd b (num m) = 1) (h1 : 1 < num m) : hasS m o (B (a * b % num m)) = true := by
  have hm := natSmall_bound m sm
  have hl := Nat.mod_lt (a * b) (show 0 < num m by omega)
  have hgc := gcd_mul_mod ha hb
  generalize a * b % num m = c at *
  have hcl : c < lim := u64_lt_lim (by omega)
  have hc0 : c ≠ 0 := by
    intro e
    subst e
    rw [Nat.gcd_zero_left] at hgc
    omega
  unfold hasS
  rw [hg, valid_B hcl, B_isEmpty_false hc0, num_B, decide_eq_true hgc]
  have hcm : natCmp (B c) m < 0 := by
    have hv := goodS_valid hg
    rw [← B_num hv, natCmp_BB hcl (valid_num_lt hv)]
    exact cmpN_neg.2 hl
  rw [decide_eq_true hcm]
  rfl
theorem good_big {m o : ByteArray} (hg : goodS m o = true) : 8 < num m := by
  have hv := goodS_valid hg
  unfold goodS at hg
  simp only [Bool.and_eq_true, decide_eq_true_eq] at hg
  have h := hg.2
  rw [← B_num hv, natCmp_BB (valid_num_lt hv) (small_lim (by decide))] at h
  unfold cmpN at h
  split at h
  · omega
  · split at h
    · omega
    · omega

set_option maxHeartbeats 8000000 in
theorem law_closed (m o p q x e y : ByteArray) (w : World) (hT : Tab w) :
    Calls Tryd.prog 3 #[.agg #[.string m, .string o, .string p, .string q, .string x, .string e], .string y] w fun r w' => r = .returned (.bool true) ∧ Below w.heap.size w w' := by
  have HT := Lib.hid hT
  have HAW := Lib.hid law10_awake
  clear hT
  go_enter Tryd.func3, Tryd.ntmps3
  go_upto_region 1 with fail
  go_cut [5, 6] (fun vg vt wx => ∃ G T : Nat, vg = .pointer (some ⟨G, 0, none⟩) ∧ vt = .pointer (some ⟨T, 0, none⟩) ∧ ClAt w m o p q x G T wx)
  case first =>
    go_region_with (fail)
    all_goals
      go_wp2_with fail
      go_meet
      exact ⟨_, _, rfl, rfl, ⟨by simp [go_sem], by simp [go_sem], by simp [go_sem], by simp [go_sem], by simp [go_sem], (((HT.out.alloc _).alloc _).alloc _).drew, ((((Below.refl _ _).alloc (Nat.le_refl _) _).alloc (by simp) _).alloc (by simp; omega) _).drew, by simp; try omega, by simp; try omega, by simp; try omega⟩⟩
  case rest =>
    obtain ⟨G, T, rfl, rfl, hcl⟩ := hcut
    have HC := Lib.hid hcl
    have hrow := SRow.new wc 22 [m, p, q, x, y]
    have hfew := law10_few [m, p, q, x, y] 5 wc.heap.size _ rfl (by decide) hrow
    have HC1 := Lib.hid (hcl.next ((Below.refl wc.heap.size wc).alloc (Nat.le_refl _) (.cells #[.string m, .string p, .string q, .string x, .string y] 22)))
    have HFW : Hid (Calls Tryd.prog 5 #[.slice (some ⟨wc.heap.size, 0, none⟩) 5 5] (wc.alloc (.cells #[.string m, .string p, .string q, .string x, .string y] 22)) fun e w' => e = .returned (.bool (fewS [m, p, q, x, y])) ∧ wc.alloc (.cells #[.string m, .string p, .string q, .string x, .string y] 22) = w') := Lib.hid hfew
    have c0 := hcl.c0
    have c1 := hcl.c1
    have d0 := hcl.d0
    have d1 := hcl.d1
    have ex := hcl.ex
    have sg := hcl.sg
    have st := hcl.st
    have sz := hcl.sz
    clear hcl hrow hfew HT
    cases hf : fewS [m, p, q, x, y]
    · rw [hf] at HFW
      clear hf
      go_wp2_with (first | (go_at_call 5; refine HFW.out.mono ?_; rintro e w' ⟨rfl, rfl⟩) | (go_at_call 8; refine (HAW.out _ HC1.out.tab).mono ?_; rintro e w9 ⟨rfl, hb9⟩))
      go_ret
      exact ⟨rfl, (HC1.out.next hb9).below⟩
    · rw [hf] at HFW
      obtain ⟨sm, sp, sq, sx, sy⟩ := few5 hf
      clear hf
      have hck := fun w hT => rsagroup_Check m o p q w sm hT
      have hhx := fun w => rsagroup_Has m o x w sm
      have hhy := fun w => rsagroup_Has m o y w sm
      by_cases hc : checkS m o p q = 0
      · rw [hc] at hck
        have HCK := Lib.hid hck
        cases hx1 : hasS m o x
        · rw [hx1] at hhx
          have HHX := Lib.hid hhx
          clear hck hhx hhy hc hx1
          go_wp2_with (first | (go_at_call 5; refine HFW.out.mono ?_; rintro e w' ⟨rfl, rfl⟩) | (go_at_call 6; refine (HCK.out _ HC1.out.tab).mono ?_; rintro e w1 ⟨rfl, hb1⟩; have n1 := HC1.out.next hb1; have c01 := n1.c0; have c11 := n1.c1; have d01 := n1.d0; have d11 := n1.d1; have ex1 := n1.ex; have H1 := Lib.hid n1; clear n1) | (go_at_call 7; (with_reducible refine (HHX.out _).mono ?_); rintro e w2 ⟨rfl, hb2⟩; have n2 := H1.out.next hb2; have c02 := n2.c0; have c12 := n2.c1; have d02 := n2.d0; have d12 := n2.d1; have ex2 := n2.ex; have H2 := Lib.hid n2; clear n2) | (go_at_call 8; refine (HAW.out _ H2.out.tab).mono ?_; rintro e w9 ⟨rfl, hb9⟩))
          go_ret
          exact ⟨rfl, (H2.out.next hb9).below⟩
        · rw [hx1] at hhx
          have HHX := Lib.hid hhx
          cases hy1 : hasS m o y
          · rw [hy1] at hhy
            have HHY := Lib.hid hhy
            clear hck hhx hhy hc hx1 hy1
            go_wp2_with (first | (go_at_call 5; refine HFW.out.mono ?_; rintro e w' ⟨rfl, rfl⟩) | (go_at_call 6; refine (HCK.out _ HC1.out.tab).mono ?_; rintro e w1 ⟨rfl, hb1⟩; have n1 := HC1.out.next hb1; have c01 := n1.c0; have c11 := n1.c1; have d01 := n1.d0; have d11 := n1.d1; have ex1 := n1.ex; have H1 := Lib.hid n1; clear n1) | (go_at_call 7; (with_reducible refine (HHX.out _).mono ?_); rintro e w2 ⟨rfl, hb2⟩; have n2 := H1.out.next hb2; have c02 := n2.c0; have c12 := n2.c1; have d02 := n2.d0; have d12 := n2.d1; have ex2 := n2.ex; have H2 := Lib.hid n2; clear n2) | (go_at_call 7; (with_reducible refine (HHY.out _).mono ?_); rintro e w3 ⟨rfl, hb3⟩; have n3 := H2.out.next hb3; have c03 := n3.c0; have c13 := n3.c1; have d03 := n3.d0; have d13 := n3.d1; have ex3 := n3.ex; have H3 := Lib.hid n3; clear n3) | (go_at_call 8; refine (HAW.out _ H3.out.tab).mono ?_; rintro e w9 ⟨rfl, hb9⟩))
            go_ret
            exact ⟨rfl, (H3.out.next hb9).below⟩
          · rw [hy1] at hhy
            have HHY := Lib.hid hhy
            clear hck hhx hhy
            obtain ⟨⟨vm, vp, vq⟩, hg, ht, hm2, hme⟩ := checkS_zero hc
            obtain ⟨tp, tq, _⟩ := trapS_zero ht
            have op := safeS_odd tp.1 tp.2
            have oq := safeS_odd tq.1 tq.2
            obtain ⟨vx, xl, x64, _, _, gx⟩ := hasS_lt sm hx1
            obtain ⟨vy, yl, y64, _, _, gy⟩ := hasS_lt sm hy1
            have hnb := good_big hg
            have m64 := natSmall_bound m sm
            have hmul : num m = num p * num q := by
              have h1 : natMul p q = fitted (num p * num q) := by unfold natMul; rw [vp, vq]; rfl
              rw [h1] at hm2 hme
              unfold fitted at hm2 hme
              split at hm2
              · rename_i hlt
                rw [if_pos hlt] at hme
                rw [← B_num vm, B_beq] at hme
                exact (of_decide_eq_true hme).symm
              · cases hm2
            have h3 := has_mul (a := num x) (b := num y) sm hg gx gy (by omega)
            have h4 := has_mul (a := num y) (b := num y) sm hg gy gy (by omega)
            obtain ⟨cl1, cl2, cl3⟩ := closed_law (a := num x) (b := num y) hmul op oq gy
            have hcl3 : num x * num y % num m < num m := Nat.mod_lt _ (by omega)
            have hcl4 : num y * num y % num m < num m := Nat.mod_lt _ (by omega)
            have is1 := isSquare_elem vx hc hx1
            have is2 := isSquare_elem vy hc hy1
            have is3 := isSquare_elem (valid_B (u64_lt_lim (Nat.lt_trans hcl3 m64))) hc h3
            have is4 := isSquare_elem (valid_B (u64_lt_lim (Nat.lt_trans hcl4 m64))) hc h4
            rw [num_B] at is3 is4
            have hs1 := fun w hT => rsagroup_IsSquare m o p q x w sm hT
            have hs2 := fun w hT => rsagroup_IsSquare m o p q y w sm hT
            have hs3 := fun w hT => rsagroup_IsSquare m o p q (B (num x * num y % num m)) w sm hT
            have hs4 := fun w hT => rsagroup_IsSquare m o p q (B (num y * num y % num m)) w sm hT
            rw [is1] at hs1
            rw [is2] at hs2
            rw [is3] at hs3
            rw [is4, cl1] at hs4
            have hh3 := fun w => rsagroup_Has m o (B (num x * num y % num m)) w sm
            rw [h3] at hh3
            have hm1 := fun w => modular_Mul (num x) (num y) (num m) w x64 y64 m64 (by omega)
            have hm2' := fun w => modular_Mul (num y) (num y) (num m) w y64 y64 m64 (by omega)
            rw [B_num vx, B_num vy, B_num vm] at hm1
            rw [B_num vy, B_num vm] at hm2'
            generalize num x * num y % num m = cc at *
            generalize num y * num y % num m = dd at *
            generalize sqB (num x) (num p) (num q) = sa at *
            generalize sqB (num y) (num p) (num q) = sb at *
            generalize sqB cc (num p) (num q) = sc at *
            have HS1 := Lib.hid hs1
            have HS2 := Lib.hid hs2
            have HS3 := Lib.hid hs3
            have HS4 := Lib.hid hs4
            have HH3 := Lib.hid hh3
            have HM1 := Lib.hid hm1
            have HM2 := Lib.hid hm2'
            have CL2 := Lib.hid cl2
            have CL3 := Lib.hid cl3
            clear hs1 hs2 hs3 hs4 hh3 hm1 hm2' cl1 cl2 cl3 is1 is2 is3 is4 h3 h4 hc hx1 hy1 hg ht hm2 hme tp tq op oq vx xl x64 gx vy yl y64 gy hnb m64 hmul hcl3 hcl4 vm vp vq
            go_upto_region 4 with (first | (go_at_call 5; refine HFW.out.mono ?_; rintro e w' ⟨rfl, rfl⟩) | (go_at_call 6; refine (HCK.out _ HC1.out.tab).mono ?_; rintro e w1 ⟨rfl, hb1⟩; have n1 := HC1.out.next hb1; have c01 := n1.c0; have c11 := n1.c1; have d01 := n1.d0; have d11 := n1.d1; have ex1 := n1.ex; have H1 := Lib.hid n1; clear n1) | (go_at_call 7; (with_reducible refine (HHX.out _).mono ?_); rintro e w2 ⟨rfl, hb2⟩; have n2 := H1.out.next hb2; have c02 := n2.c0; have c12 := n2.c1; have d02 := n2.d0; have d12 := n2.d1; have ex2 := n2.ex; have H2 := Lib.hid n2; clear n2) | (go_at_call 7; (with_reducible refine (HHY.out _).mono ?_); rintro e w3 ⟨rfl, hb3⟩; have n3 := H2.out.next hb3; have c03 := n3.c0; have c13 := n3.c1; have d03 := n3.d0; have d13 := n3.d1; have ex3 := n3.ex; have H3 := Lib.hid n3; clear n3))
            go_upto_region 12 with (first | (go_at_call 9; (with_reducible refine (HM1.out _).mono ?_); rintro e w4 ⟨rfl, hb4⟩; have n4 := H3.out.next hb4; have c04 := n4.c0; have c14 := n4.c1; have d04 := n4.d0; have d14 := n4.d1; have ex4 := n4.ex; have H4 := Lib.hid n4; clear n4) | (go_at_call 9; (with_reducible refine (HM2.out _).mono ?_); rintro e w5 ⟨rfl, hb5⟩; have n5 := H4.out.next hb5; have c05 := n5.c0; have c15 := n5.c1; have d05 := n5.d0; have d15 := n5.d1; have ex5 := n5.ex; have H5 := Lib.hid n5; clear n5) | (go_at_call 10; (with_reducible refine (HS1.out _ H5.out.tab).mono ?_); rintro e w6 ⟨rfl, hb6⟩; have n6 := H5.out.next hb6; have c06 := n6.c0; have c16 := n6.c1; have d06 := n6.d0; have d16 := n6.d1; have ex6 := n6.ex; have H6 := Lib.hid n6; clear n6) | (go_at_call 10; (with_reducible refine (HS2.out _ H6.out.tab).mono ?_); rintro e w7 ⟨rfl, hb7⟩; have n7 := H6.out.next hb7; have c07 := n7.c0; have c17 := n7.c1; have d07 := n7.d0; have d17 := n7.d1; have ex7 := n7.ex; have H7 := Lib.hid n7; clear n7) | (go_at_call 10; (with_reducible refine (HS3.out _ H7.out.tab).mono ?_); rintro e w8 ⟨rfl, hb8⟩; have n8 := H7.out.next hb8; have c08 := n8.c0; have c18 := n8.c1; have d08 := n8.d0; have d18 := n8.d1; have ex8 := n8.ex; have H8 := Lib.hid n8; clear n8) | (go_at_call 10; (with_reducible refine (HS4.out _ H8.out.tab).mono ?_); rintro e w10 ⟨rfl, hb10⟩; have n10 := H8.out.next hb10; have c010 := n10.c0; have c110 := n10.c1; have d010 := n10.d0; have d110 := n10.d1; have ex10 := n10.ex; have H10 := Lib.hid n10; clear n10) | (go_at_call 7; (with_reducible refine (HH3.out _).mono ?_); rintro e w11 ⟨rfl, hb11⟩; have n11 := H10.out.next hb11; have c011 := n11.c0; have c111 := n11.c1; have d011 := n11.d0; have d111 := n11.d1; have ex11 := n11.ex; have H11 := Lib.hid n11; clear n11))
            have C2 := CL2.out
            have C3 := CL3.out
            clear HM1 HM2 HS1 HS2 HS3 HS4 HH3 HHX HHY HCK HFW CL2 CL3
            cases sa <;> cases sb <;> cases sc
            all_goals
              first
                | (exfalso; first | exact absurd (C2 rfl) (by decide) | exact absurd (C3 rfl) (by decide))
                | (clear C2 C3
                   go_wp2_with (go_at_call 8; refine (HAW.out _ H11.out.tab).mono ?_; rintro e w12 ⟨rfl, hb12⟩)
                   go_ret
                   exact ⟨rfl, (H11.out.next hb12).below⟩)
      · have B1 : (checkS m o p q != 0) = true := by rw [bne_iff_ne]; exact hc
        have HCK := Lib.hid hck
        clear hck hhx hhy hc
        go_wp2_with (first | (go_at_call 5; refine HFW.out.mono ?_; rintro e w' ⟨rfl, rfl⟩) | (go_at_call 6; refine (HCK.out _ HC1.out.tab).mono ?_; rintro e w1 ⟨rfl, hb1⟩; have n1 := HC1.out.next hb1; have c01 := n1.c0; have c11 := n1.c1; have d01 := n1.d0; have d11 := n1.d1; have ex1 := n1.ex; have H1 := Lib.hid n1; clear n1) | (go_at_call 8; refine (HAW.out _ H1.out.tab).mono ?_; rintro e w9 ⟨rfl, hb9⟩))
        go_ret
        exact ⟨rfl, (H1.out.next hb9).below⟩

end Go.Proofs.YtgbkjicpmjncaaaDoor
