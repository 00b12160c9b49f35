/- Plain law: groups of both kinds, sets of handles, and the accumulator of members. No walk. The walks of package power: the form of a group, elements. -/
import Derived.Test.YtcpglhjmhegfmaaGreatDoorTvBM
import Derived.Test.YtcpglhjmhegfmaaGreatDoorTvBE
import Derived.Deep.RegionHeld3
namespace Go.Proofs.YtcpglhjmhegfmaaGreatDoor
set_option maxRecDepth 100000
set_option linter.unusedVariables false
/-- Whether a number is an element of a group of prime order. -/
def pgHas (m o x : ByteArray) : Bool :=
  valid m && (valid o && (valid x && (!o.toList.isEmpty && (!x.toList.isEmpty && (decide (natCmp x m < 0) && decide (num x ^ num o % num m = 1 % num m))))))
/-- The error of a group of either kind. -/
def groupE (m o : ByteArray) : Int :=
  if (valid m && valid o) = true then
    if o.toList.isEmpty = true then (if (natBit m 0 && decide (0 < natCmp m (B 8))) = true then 0 else 13)
    else if num m ≤ 1 then 13 else if num o < 2 then 13 else if (num m - 1) % num o = 0 then 0 else 13
  else 3
/-- Whether a number is an element of a well-formed group of either kind. -/
def hasG (m o x : ByteArray) : Bool := if o.toList.isEmpty then hasS m o x else pgHas m o x
def readyS (m o : ByteArray) (els hs : List ByteArray) : Int :=
  if (els.all valid && (hs.all valid && (valid m && valid o))) = true then
    if groupE m o = 0 then (if els.all (hasG m o) = true then (if hs.any (fun u => u.toList.isEmpty) = true then 11 else 0) else 13) else groupE m o
  else 3
/-- Whether some member occurs twice. -/
def twiceB : List ByteArray → Bool
  | [] => false
  | u :: l => l.any (fun x => x.toList == u.toList) || twiceB l
def prodN (l : List ByteArray) : Nat := l.foldr (fun u p => num u * p) 1
/-- The powers of a number, one handle after another. -/
def raiseN (m : Nat) (l : List ByteArray) (x : Nat) : Nat := l.foldl (fun y u => y ^ num u % m) x
theorem raiseN_eq {m : Nat} (l : List ByteArray) {x : Nat} (h : x < m) : raiseN m l x = x ^ prodN l % m := by
  induction l generalizing x with
  | nil => simp [raiseN, prodN, Nat.mod_eq_of_lt h]
  | cons u l ih =>
    show raiseN m l (x ^ num u % m) = _
    rw [ih (Nat.mod_lt _ (by omega)), pow_mod_l, ← Nat.pow_mul]
    rfl
theorem prodN_perm {l l' : List ByteArray} (h : l.Perm l') : prodN l = prodN l' := by
  induction h with
  | nil => rfl
  | cons x _ ih => simp only [prodN, List.foldr_cons] at ih ⊢; rw [ih]
  | swap x y l => simp only [prodN, List.foldr_cons]; rw [Nat.mul_left_comm]
  | trans _ _ ih1 ih2 => rw [ih1, ih2]
/-- The accumulator of members, and the error. -/
def valueS (m o u : ByteArray) (ms : List ByteArray) : ByteArray × Int :=
  if readyS m o [u] ms = 0 then (if twiceB ms = true then (E0, 8) else (B (raiseN (num m) ms (num u)), 0)) else (E0, readyS m o [u] ms)
theorem hasG_lt {m o x : ByteArray} (sm : m.size ≤ 8) (h : hasG m o x = true) : valid x = true ∧ valid m = true ∧ num x < num m ∧ num m < 18446744073709551616 := by
  have h8 := natSmall_bound m sm
  unfold hasG at h
  split at h
  · unfold hasS at h
    simp only [Bool.and_eq_true, decide_eq_true_eq] at h
    exact ⟨h.1.1.1.2, goodS_valid h.1.1.1.1, natCmp_neg h.1.1.1.2 (goodS_valid h.1.1.1.1) h.1.2, h8⟩
  · unfold pgHas at h
    simp only [Bool.and_eq_true, decide_eq_true_eq] at h
    exact ⟨h.2.2.1, h.1, natCmp_neg h.2.2.1 h.1 h.2.2.2.2.2.1, h8⟩
/-- An element and its powers. -/
theorem gcd_pow_one {x m : Nat} (h : Nat.gcd x m = 1) (k : Nat) : Nat.gcd (x ^ k % m) m = 1 := by
  rw [← Nat.gcd_rec, Nat.gcd_comm]
  exact Nat.Coprime.pow_left k h
theorem hasG_pow {m o : ByteArray} (sm : m.size ≤ 8) {x k : Nat} (hg : groupE m o = 0) (h : hasG m o (B x) = true) : hasG m o (B (x ^ k % num m)) = true := by
  obtain ⟨hx, hm, hlt, h64⟩ := hasG_lt sm h
  rw [num_B] at hlt
  have hr : x ^ k % num m < num m := Nat.mod_lt _ (by omega)
  have hvr : valid (B (x ^ k % num m)) = true := valid_B (u64_lt_lim (by omega))
  have hc : natCmp (B (x ^ k % num m)) m < 0 := by
    unfold natCmp
    rw [hvr, hm, num_B]
    exact cmpN_neg.2 hr
  unfold hasG at h ⊢
  split
  · rename_i ho
    rw [if_pos ho] at h
    unfold hasS at h ⊢
    simp only [Bool.and_eq_true, decide_eq_true_eq, Bool.not_eq_true', num_B] at h ⊢
    obtain ⟨⟨⟨⟨a, b⟩, c⟩, d⟩, e⟩ := h
    have hgc := gcd_pow_one e k
    refine ⟨⟨⟨⟨a, hvr⟩, ?_⟩, hc⟩, hgc⟩
    have hne : x ^ k % num m ≠ 0 := by
      intro h0
      rw [h0, Nat.gcd_zero_left] at hgc
      have h8 : 0 < natCmp m (B 8) := by
        unfold goodS at a
        simp only [Bool.and_eq_true, decide_eq_true_eq] at a
        exact a.2
      rw [← B_num hm, hgc] at h8
      exact absurd h8 (by decide)
    cases he : (B (x ^ k % num m)).toList.isEmpty
    · rfl
    · exact absurd (of_decide_eq_true ((B_isEmpty _).symm.trans he)) hne
  · rename_i ho
    rw [if_neg ho] at h
    unfold pgHas at h ⊢
    simp only [Bool.and_eq_true, decide_eq_true_eq, Bool.not_eq_true', num_B] at h ⊢
    obtain ⟨a, b, c, d, e, f, g⟩ := h
    have hm2 : 1 < num m := by
      unfold groupE at hg
      rw [if_pos (by rw [hm, b]; rfl), if_neg (by rw [d]; simp)] at hg
      split at hg
      · cases hg
      · omega
    have ho0 : num o ≠ 0 := by
      intro h0
      rw [← B_num b, h0] at d
      exact absurd d (by rw [B_isEmpty_true]; simp)
    have hp : (x ^ k % num m) ^ num o % num m = 1 % num m := by
      rw [pow_mod_l, ← Nat.pow_mul, Nat.mul_comm, Nat.pow_mul, ← pow_mod_l, g, pow_mod_l, Nat.one_pow]
    refine ⟨hm, b, hvr, d, ?_, hc, hp⟩
    cases he : (B (x ^ k % num m)).toList.isEmpty
    · rfl
    · exfalso
      have h0 := of_decide_eq_true ((B_isEmpty _).symm.trans he)
      rw [h0, Nat.zero_pow (by omega), Nat.zero_mod, Nat.mod_eq_of_lt hm2] at hp
      cases hp
end Go.Proofs.YtcpglhjmhegfmaaGreatDoor
namespace Go.Proofs.YtcpglhjmhegfmaaGreatDoor
open Go.RowKit
set_option maxRecDepth 100000
set_option linter.unusedVariables false
set_option maxHeartbeats 1000000
/-- A pair of strings in memory: a group. -/
structure GrAt (w : World) (g : Nat) (m o : ByteArray) (wx : World) : Prop where
  c0 : wx.cell? ⟨g, 0, none⟩ = some (.string m)
  c1 : wx.cell? ⟨g, 1, none⟩ = some (.string o)
  below : Below w.heap.size w wx
  size : g < wx.heap.size
theorem GrAt.next {w wx w' : World} {g : Nat} {m o : ByteArray} (h : GrAt w g m o wx) (hb : Below wx.heap.size wx w') : GrAt w g m o w' := by
  have hz := h.size
  exact ⟨(hb.cell (p := ⟨g, 0, none⟩) hz).trans h.c0, (hb.cell (p := ⟨g, 1, none⟩) hz).trans h.c1, below2 h.below hb, by have := hb.size; omega⟩
theorem GrAt.drew {w wx : World} {g : Nat} {m o : ByteArray} (h : GrAt w g m o wx) : GrAt w g m o wx.drew := ⟨h.c0, h.c1, Below.drew h.below, h.size⟩
theorem GrAt.drewN {w wx : World} {g : Nat} {m o : ByteArray} (h : GrAt w g m o wx) (n : Nat) : GrAt w g m o (wx.drewN n) := ⟨h.c0, h.c1, below_drewN h.below n, h.size⟩
theorem GrAt.box (w : World) (m o : ByteArray) (T : TypeId) : GrAt w w.heap.size m o (w.alloc (.cells #[.string m, .string o] T)) :=
  ⟨by simp [go_sem], by simp [go_sem], (Below.refl _ _).alloc (Nat.le_refl _) _, by simp⟩
theorem u64_of_size {m : ByteArray} (h : m.size ≤ 8) : num m < 18446744073709551616 := natSmall_bound m h
theorem natSub_one {m : ByteArray} (h : valid m = true) : natSub m (B 1) = if num m < 1 then (E0, 2) else (B (num m - 1), 0) := by
  unfold natSub
  rw [h, valid_B (u64_lt_lim (by decide)), num_B]
  rfl
theorem natDivMod_ok {a b : ByteArray} (ha : valid a = true) (hb : valid b = true) (h : num b ≠ 0) : natDivMod a b = (B (num a / num b), B (num a % num b), 0) := by
  unfold natDivMod
  rw [ha, hb, if_pos (by rfl), if_neg h]
theorem natural_DivMod_less (M : Nat) (o : ByteArray) (w : World) (hM : M < 18446744073709551616) (ho : valid o = true) (h : num o ≠ 0) :
    Calls Tryz.prog 27 #[.string (B M), .string o] w fun e w' => e = .returned (.tuple #[.string (B (M / num o)), .string (B (M % num o)), .int .i64 0]) ∧ Below w.heap.size w w' := by
  have := natural_DivMod (B M) o w (fun _ => .inl (by rw [num_B]; exact hM))
  rw [natDivMod_ok (valid_B (u64_lt_lim hM)) ho h, num_B] at this
  exact this
theorem power_Check (m o : ByteArray) (w : World) (sm : m.size ≤ 8) :
    Calls Tryz.prog 29 #[.agg #[.string m, .string o]] w fun e w' => e = .returned (.int .i64 (groupE m o)) ∧ Below w.heap.size w w' := by
  have hr : groupE m o = if (valid m && valid o) = true then
    if o.toList.isEmpty = true then (if (natBit m 0 && decide (0 < natCmp m (B 8))) = true then 0 else 13)
    else if num m ≤ 1 then 13 else if num o < 2 then 13 else if (num m - 1) % num o = 0 then 0 else 13
  else 3 := rfl
  have HR := Lib.hid hr
  have HS := Lib.hid (GrAt.box w m o 24)
  clear hr
  cases h1 : valid m
  · go_enter Tryz.func29, Tryz.ntmps29
    go_wp2_with (first | (go_at_call 13; refine (natural_Valid _ _).mono ?_; rintro e w' ⟨rfl, rfl⟩))
    go_ret
    exact ⟨ret_int (by rw [HR.out, h1] <;> rfl), HS.out.below⟩
  · cases h2 : valid o
    · go_enter Tryz.func29, Tryz.ntmps29
      go_wp2_with (first | (go_at_call 13; refine (natural_Valid _ _).mono ?_; rintro e w' ⟨rfl, rfl⟩))
      go_ret
      exact ⟨ret_int (by rw [HR.out, h1, h2] <;> rfl), HS.out.below⟩
    · cases h3 : o.toList.isEmpty
      · have hO : num o ≠ 0 := by
          intro h0
          rw [← B_num h2, h0, B_isEmpty_true] at h3
          cases h3
        have hsub := natural_Sub m (B 1)
        rw [natSub_one h1] at hsub
        have H8 := Lib.hid (u64_of_size sm)
        by_cases hm0 : num m < 1
        · rw [if_pos hm0] at hsub
          dsimp only at hsub
          have HSUB := Lib.hid hsub
          have HF := Lib.hid (show groupE m o = 13 by rw [HR.out, h1, h2, if_pos (by rfl), h3, if_neg (by simp), if_pos (by omega)])
          clear hsub hO hm0
          have c0 := HS.out.c0
          have c1 := HS.out.c1
          go_enter Tryz.func29, Tryz.ntmps29
          go_wp2_with (first | (go_at_call 13; refine (natural_Valid _ _).mono ?_; rintro e w' ⟨rfl, rfl⟩))
          go_region_held3 (fun w' => w'.cell? ⟨w.heap.size, 0, none⟩ = some (.string m) ∧ w'.cell? ⟨w.heap.size, 1, none⟩ = some (.string o)) (first | go_keep) (first | (go_at_call 12; (with_reducible refine (natural_Of' 1 1 _ rfl (by decide)).mono ?_); rintro e w1 ⟨rfl, hb1⟩; have n1 : GrAt w w.heap.size m o w1 := by { first | exact (HS.out).next hb1 | exact (HS.out).drew.next hb1 | exact (HS.out).next (((Below.refl _ _).drew).trans hb1) }; have p1 := n1.c0; have q1 := n1.c1; have H1 := Lib.hid n1; clear n1 hb1) | (go_at_call 45; (with_reducible refine (HSUB.out _).mono ?_); rintro e w2 ⟨rfl, hb2⟩; have n2 : GrAt w w.heap.size m o w2 := by { first | exact (H1.out).next hb2 | exact (H1.out).drew.next hb2 | exact (H1.out).next (((Below.refl _ _).drew).trans hb2) }; have p2 := n2.c0; have q2 := n2.c1; have H2 := Lib.hid n2; clear n2 hb2))
          all_goals
            go_wp2_with fail
            go_quiet ((fail))
            all_goals
              go_wp2_with fail
              go_ret
              exact ⟨ret_int HF.out.symm, below_drewN H2.out.below _⟩
        · rw [if_neg hm0] at hsub
          dsimp only at hsub
          by_cases hm1 : num m = 1
          · rw [hm1] at hsub
            have HSUB := Lib.hid hsub
            have hE := B_isEmpty_true
            have HF := Lib.hid (show groupE m o = 13 by rw [HR.out, h1, h2, if_pos (by rfl), h3, if_neg (by simp), if_pos (by omega)])
            clear hsub hO hm0 hm1
            have c0 := HS.out.c0
            have c1 := HS.out.c1
            go_enter Tryz.func29, Tryz.ntmps29
            go_wp2_with (first | (go_at_call 13; refine (natural_Valid _ _).mono ?_; rintro e w' ⟨rfl, rfl⟩))
            go_region_held3 (fun w' => w'.cell? ⟨w.heap.size, 0, none⟩ = some (.string m) ∧ w'.cell? ⟨w.heap.size, 1, none⟩ = some (.string o)) (first | go_keep) (first | (go_at_call 12; (with_reducible refine (natural_Of' 1 1 _ rfl (by decide)).mono ?_); rintro e w1 ⟨rfl, hb1⟩; have n1 : GrAt w w.heap.size m o w1 := by { first | exact (HS.out).next hb1 | exact (HS.out).drew.next hb1 | exact (HS.out).next (((Below.refl _ _).drew).trans hb1) }; have p1 := n1.c0; have q1 := n1.c1; have H1 := Lib.hid n1; clear n1 hb1) | (go_at_call 45; (with_reducible refine (HSUB.out _).mono ?_); rintro e w2 ⟨rfl, hb2⟩; have n2 : GrAt w w.heap.size m o w2 := by { first | exact (H1.out).next hb2 | exact (H1.out).drew.next hb2 | exact (H1.out).next (((Below.refl _ _).drew).trans hb2) }; have p2 := n2.c0; have q2 := n2.c1; have H2 := Lib.hid n2; clear n2 hb2))
            all_goals
              go_wp2_with fail
              go_quiet ((fail))
              all_goals
                go_wp2_with fail
                go_ret
                exact ⟨ret_int HF.out.symm, below_drewN H2.out.below _⟩
          · obtain ⟨L, hL⟩ : ∃ L, num m - 1 = L := ⟨_, rfl⟩
            have hL64 : L < 18446744073709551616 := by have := H8.out; omega
            have hdv := fun w => natural_DivMod_less L o w hL64 h2 hO
            have hEL : (B L).toList.isEmpty = false := B_isEmpty_false (by omega)
            rw [hL] at hsub
            have HSUB := Lib.hid hsub
            have HDIV := Lib.hid hdv
            have hcm := natural_Cmp o (B 2)
            have hcv : natCmp o (B 2) < 0 ↔ num o < 2 := by
              unfold natCmp
              rw [h2, valid_B (u64_lt_lim (by decide)), num_B]
              exact cmpN_neg
            have HR2 := Lib.hid (show groupE m o = if num o < 2 then 13 else if L % num o = 0 then 0 else 13 by rw [HR.out, h1, h2, if_pos (by rfl), h3, if_neg (by simp), if_neg (by omega), hL])
            obtain ⟨R, hR⟩ : ∃ R, L % num o = R := ⟨_, rfl⟩
            rw [hR] at HDIV HR2
            by_cases ho2 : num o < 2
            · have k1 : decide (natCmp o (B 2) < 0) = true := decide_eq_true (hcv.2 ho2)
              rw [if_pos ho2] at HR2
              generalize natCmp o (B 2) = cv at *
              have HCMP := Lib.hid hcm
              clear hsub hO hm0 hm1 hcv hcm ho2 hL hdv hL64 hR
              have c0 := HS.out.c0
              have c1 := HS.out.c1
              go_enter Tryz.func29, Tryz.ntmps29
              go_wp2_with (first | (go_at_call 13; refine (natural_Valid _ _).mono ?_; rintro e w' ⟨rfl, rfl⟩))
              go_region_held3 (fun w' => w'.cell? ⟨w.heap.size, 0, none⟩ = some (.string m) ∧ w'.cell? ⟨w.heap.size, 1, none⟩ = some (.string o)) (first | go_keep) (first | (go_at_call 12; (with_reducible refine (natural_Of' 1 1 _ rfl (by decide)).mono ?_); rintro e w1 ⟨rfl, hb1⟩; have n1 : GrAt w w.heap.size m o w1 := by { first | exact (HS.out).next hb1 | exact (HS.out).drew.next hb1 | exact (HS.out).next (((Below.refl _ _).drew).trans hb1) }; have p1 := n1.c0; have q1 := n1.c1; have H1 := Lib.hid n1; clear n1 hb1) | (go_at_call 45; (with_reducible refine (HSUB.out _).mono ?_); rintro e w2 ⟨rfl, hb2⟩; have n2 : GrAt w w.heap.size m o w2 := by { first | exact (H1.out).next hb2 | exact (H1.out).drew.next hb2 | exact (H1.out).next (((Below.refl _ _).drew).trans hb2) }; have p2 := n2.c0; have q2 := n2.c1; have H2 := Lib.hid n2; clear n2 hb2))
              all_goals
                go_wp2_with fail
                go_region_held3 (fun w' => w'.cell? ⟨w.heap.size, 0, none⟩ = some (.string m) ∧ w'.cell? ⟨w.heap.size, 1, none⟩ = some (.string o)) (first | go_keep) (first | (go_at_call 12; (with_reducible refine (natural_Of' 2 2 _ rfl (by decide)).mono ?_); rintro e w3 ⟨rfl, hb3⟩; have n3 : GrAt w w.heap.size m o w3 := by { first | exact (H2.out).next hb3 | exact (H2.out).drew.next hb3 | exact (H2.out).next (((Below.refl _ _).drew).trans hb3) }; have p3 := n3.c0; have q3 := n3.c1; have H3 := Lib.hid n3; clear n3 hb3) | (go_at_call 33; (with_reducible refine (HCMP.out _).mono ?_); rintro e w' ⟨rfl, rfl⟩))
                all_goals
                  go_wp2_with fail
                  go_ret
                  exact ⟨ret_int HR2.out.symm, H3.out.below⟩
            · have k1 : decide (natCmp o (B 2) < 0) = false := decide_eq_false (fun h => ho2 (hcv.1 h))
              rw [if_neg ho2] at HR2
              generalize natCmp o (B 2) = cv at *
              have HCMP := Lib.hid hcm
              have hre := B_isEmpty R
              clear hsub hO hm0 hm1 hcv hcm ho2 hL hdv hL64 hR
              have c0 := HS.out.c0
              have c1 := HS.out.c1
              by_cases hR0 : R = 0
              all_goals
                first | rw [decide_eq_true hR0] at hre | rw [decide_eq_false hR0] at hre
                have HR0 := Lib.hid hR0
                clear hR0
                go_enter Tryz.func29, Tryz.ntmps29
                go_wp2_with (first | (go_at_call 13; refine (natural_Valid _ _).mono ?_; rintro e w' ⟨rfl, rfl⟩))
                go_region_held3 (fun w' => w'.cell? ⟨w.heap.size, 0, none⟩ = some (.string m) ∧ w'.cell? ⟨w.heap.size, 1, none⟩ = some (.string o)) (first | go_keep) (first | (go_at_call 12; (with_reducible refine (natural_Of' 1 1 _ rfl (by decide)).mono ?_); rintro e w1 ⟨rfl, hb1⟩; have n1 : GrAt w w.heap.size m o w1 := by { first | exact (HS.out).next hb1 | exact (HS.out).drew.next hb1 | exact (HS.out).next (((Below.refl _ _).drew).trans hb1) }; have p1 := n1.c0; have q1 := n1.c1; have H1 := Lib.hid n1; clear n1 hb1) | (go_at_call 45; (with_reducible refine (HSUB.out _).mono ?_); rintro e w2 ⟨rfl, hb2⟩; have n2 : GrAt w w.heap.size m o w2 := by { first | exact (H1.out).next hb2 | exact (H1.out).drew.next hb2 | exact (H1.out).next (((Below.refl _ _).drew).trans hb2) }; have p2 := n2.c0; have q2 := n2.c1; have H2 := Lib.hid n2; clear n2 hb2))
                all_goals
                  go_wp2_with fail
                  go_region_held3 (fun w' => w'.cell? ⟨w.heap.size, 0, none⟩ = some (.string m) ∧ w'.cell? ⟨w.heap.size, 1, none⟩ = some (.string o)) (first | go_keep) (first | (go_at_call 12; (with_reducible refine (natural_Of' 2 2 _ rfl (by decide)).mono ?_); rintro e w3 ⟨rfl, hb3⟩; have n3 : GrAt w w.heap.size m o w3 := by { first | exact (H2.out).next hb3 | exact (H2.out).drew.next hb3 | exact (H2.out).next (((Below.refl _ _).drew).trans hb3) }; have p3 := n3.c0; have q3 := n3.c1; have H3 := Lib.hid n3; clear n3 hb3) | (go_at_call 33; (with_reducible refine (HCMP.out _).mono ?_); rintro e w' ⟨rfl, rfl⟩))
                  all_goals
                    go_wp2_with (first | (go_at_call 27; (with_reducible refine (HDIV.out _).mono ?_); rintro e w4 ⟨rfl, hb4⟩; have n4 : GrAt w w.heap.size m o w4 := by { first | exact (H3.out).next hb4 | exact (H3.out).drew.next hb4 | exact (H3.out).next (((Below.refl _ _).drew).trans hb4) }; have p4 := n4.c0; have q4 := n4.c1; have H4 := Lib.hid n4; clear n4 hb4))
                    go_ret
                    exact ⟨ret_int (by rw [HR2.out]; first | exact (if_pos HR0.out).symm | exact (if_neg HR0.out).symm), H4.out.below⟩
      · have c0 := HS.out.c0
        have c1 := HS.out.c1
        cases h4 : natBit m 0
        · go_enter Tryz.func29, Tryz.ntmps29
          go_wp2_with (first | (go_at_call 13; refine (natural_Valid _ _).mono ?_; rintro e w' ⟨rfl, rfl⟩))
          go_quiet ((go_at_call 44; exact quiet_of_eq (natural_Bit m 0 0 _ rfl (by omega) (by omega))))
          all_goals
            go_wp2_with fail
            go_ret
            exact ⟨ret_int (by rw [HR.out, h1, h2, if_pos (by rfl), h3, if_pos (by rfl), h4] <;> rfl), below_drewN HS.out.below _⟩
        · obtain ⟨cv, hcv⟩ : ∃ cv, natCmp m (B 8) = cv := ⟨_, rfl⟩
          have hcm := natural_Cmp m (B 8)
          rw [hcv] at hcm HR
          have HCMP := Lib.hid hcm
          clear hcm hcv
          by_cases h5 : 0 < cv
          all_goals
            first | have k1 : decide (cv ≤ 0) = false := decide_eq_false (Int.not_le.2 h5) | have k1 : decide (cv ≤ 0) = true := decide_eq_true (Int.not_lt.1 h5)
            have H5 := Lib.hid h5
            clear h5
            go_enter Tryz.func29, Tryz.ntmps29
            go_wp2_with (first | (go_at_call 13; refine (natural_Valid _ _).mono ?_; rintro e w' ⟨rfl, rfl⟩))
            go_region_held3 (fun w' => w'.cell? ⟨w.heap.size, 0, none⟩ = some (.string m) ∧ w'.cell? ⟨w.heap.size, 1, none⟩ = some (.string o)) (first | go_keep) (first | (go_at_call 44; (with_reducible refine (natural_Bit m 0 0 _ rfl (by omega) (by omega)).mono ?_); rintro e w' ⟨rfl, rfl⟩) | (go_at_call 12; (with_reducible refine (natural_Of' 8 8 _ rfl (by decide)).mono ?_); rintro e w1 ⟨rfl, hb1⟩; have n1 : GrAt w w.heap.size m o w1 := by { first | exact (HS.out).next hb1 | exact (HS.out).drew.next hb1 | exact (HS.out).next (((Below.refl _ _).drew).trans hb1) }; have p1 := n1.c0; have q1 := n1.c1; have H1 := Lib.hid n1; clear n1 hb1) | (go_at_call 33; (with_reducible refine (HCMP.out _).mono ?_); rintro e w' ⟨rfl, rfl⟩))
            all_goals
              go_wp2_with fail
              go_ret
              exact ⟨ret_int (by rw [HR.out, h1, h2, if_pos (by rfl), h3, if_pos (by rfl), h4]; first | exact (if_pos (by rw [decide_eq_true H5.out]; rfl)).symm | exact (if_neg (by rw [decide_eq_false (Int.not_lt.2 H5.out)]; simp)).symm), H1.out.below⟩
theorem primegroup_formed (m o : ByteArray) (w : World) :
    Calls Tryz.prog 77 #[.agg #[.string m, .string o]] w fun e w' => e = .returned (.bool (valid m && valid o)) ∧ Below w.heap.size w w' := by
  have HS := Lib.hid (GrAt.box w m o 24)
  cases h1 : valid m <;> cases h2 : valid o
  all_goals
    go_enter Tryz.func77, Tryz.ntmps77
    go_wp2_with (first | (go_at_call 13; refine (natural_Valid _ _).mono ?_; rintro e w' ⟨rfl, rfl⟩))
    go_ret
    exact ⟨rfl, HS.out.below⟩
theorem num_empty' : num ⟨#[]⟩ = 0 := by decide
theorem primegroup_Has (m o x : ByteArray) (w : World) (sm : m.size ≤ 8) :
    Calls Tryz.prog 67 #[.agg #[.string m, .string o], .string x] w fun e w' => e = .returned (.bool (pgHas m o x)) ∧ Below w.heap.size w w' := by
  have hr : pgHas m o x = (valid m && (valid o && (valid x && (!o.toList.isEmpty && (!x.toList.isEmpty && (decide (natCmp x m < 0) && decide (num x ^ num o % num m = 1 % num m))))))) := rfl
  have HR := Lib.hid hr
  have HS := Lib.hid (GrAt.box w m o 24)
  have hfo := fun w => primegroup_formed m o w
  clear hr
  cases h1 : (valid m && valid o)
  · rw [h1] at hfo
    have HFO := Lib.hid hfo
    have HF : Hid (pgHas m o x = false) := Lib.hid (by rw [HR.out, ← Bool.and_assoc, h1]; rfl)
    clear hfo h1
    go_enter Tryz.func67, Tryz.ntmps67
    go_wp2_with (first | (go_at_call 77; (with_reducible refine (HFO.out _).mono ?_); rintro e w1 ⟨rfl, hb1⟩; have n1 := HS.out.next hb1; have p1 := n1.c0; have q1 := n1.c1; have H1 := Lib.hid n1; clear n1 hb1))
    go_ret
    exact ⟨ret_bool HF.out.symm, H1.out.below⟩
  · rw [h1] at hfo
    have HFO := Lib.hid hfo
    have h1' := h1
    rw [Bool.and_eq_true] at h1'
    obtain ⟨vm, vo⟩ := h1'
    have HVM := Lib.hid vm
    have HVO := Lib.hid vo
    have HR2 : Hid (pgHas m o x = (valid x && (!o.toList.isEmpty && (!x.toList.isEmpty && (decide (natCmp x m < 0) && decide (num x ^ num o % num m = 1 % num m)))))) := Lib.hid (by rw [HR.out, vm, vo]; rfl)
    clear hfo h1 vm vo HR
    cases h2 : valid x
    · go_enter Tryz.func67, Tryz.ntmps67
      go_wp2_with (first | (go_at_call 77; (with_reducible refine (HFO.out _).mono ?_); rintro e w1 ⟨rfl, hb1⟩; have n1 := HS.out.next hb1; have p1 := n1.c0; have q1 := n1.c1; have H1 := Lib.hid n1; clear n1 hb1) | (go_at_call 13; refine (natural_Valid _ _).mono ?_; rintro e w' ⟨rfl, rfl⟩))
      go_ret
      exact ⟨ret_bool (by rw [HR2.out, h2]; rfl), H1.out.below⟩
    · cases h3 : o.toList.isEmpty
      · cases h4 : x.toList.isEmpty
        · obtain ⟨cv, hcv⟩ : ∃ cv, natCmp x m = cv := ⟨_, rfl⟩
          have hcm := natural_Cmp x m
          have hcn := fun h => natCmp_neg h2 HVM.out h
          rw [hcv] at hcm HR2 hcn
          have HCMP := Lib.hid hcm
          have H8 := u64_of_size sm
          clear hcm hcv
          by_cases h5 : cv < 0
          · have hlt := hcn h5
            have k1 : decide (0 ≤ cv) = false := decide_eq_false (by omega)
            have h0 : 0 < num m := by omega
            have e1 := fun w => modular_Exp (num x) (num m) o w (by omega) H8 h0 HVO.out
            have e2 := fun w => modular_Exp (num x) (num m) ⟨#[]⟩ w (by omega) H8 h0 valid_empty
            rw [B_num h2, B_num HVM.out] at e1 e2
            rw [num_empty', Nat.pow_zero] at e2
            have HE1 := Lib.hid e1
            have HE2 := Lib.hid e2
            have kb := B_beq (num x ^ num o % num m) (1 % num m)
            have HR3 : Hid (pgHas m o x = decide (num x ^ num o % num m = 1 % num m)) := Lib.hid (by rw [HR2.out, h2, h3, h4, decide_eq_true h5]; rfl)
            generalize num x ^ num o % num m = P at *
            generalize 1 % num m = U at *
            clear e1 e2 hcn hlt h0 H8 h5
            go_enter Tryz.func67, Tryz.ntmps67
            go_wp2_with (first | (go_at_call 77; (with_reducible refine (HFO.out _).mono ?_); rintro e w1 ⟨rfl, hb1⟩; have n1 := HS.out.next hb1; have p1 := n1.c0; have q1 := n1.c1; have H1 := Lib.hid n1; clear n1 hb1) | (go_at_call 13; refine (natural_Valid _ _).mono ?_; rintro e w' ⟨rfl, rfl⟩) | (go_at_call 33; (with_reducible refine (HCMP.out _).mono ?_); rintro e w' ⟨rfl, rfl⟩) | (go_at_call 78; (with_reducible refine (HE1.out _).mono ?_); rintro e w2 ⟨rfl, hb2⟩; have n2 := H1.out.next hb2; have p2 := n2.c0; have q2 := n2.c1; have H2 := Lib.hid n2; clear n2 hb2) | (go_at_call 78; (with_reducible refine (HE2.out _).mono ?_); rintro e w3 ⟨rfl, hb3⟩; have n3 := H2.out.next hb3; have H3 := Lib.hid n3; clear n3 hb3))
            go_ret
            exact ⟨ret_bool HR3.out.symm, H3.out.below⟩
          · have k1 : decide (0 ≤ cv) = true := decide_eq_true (by omega)
            have HF : Hid (pgHas m o x = false) := Lib.hid (by rw [HR2.out, h2, h3, h4, decide_eq_false h5]; rfl)
            clear h5 hcn
            go_enter Tryz.func67, Tryz.ntmps67
            go_wp2_with (first | (go_at_call 77; (with_reducible refine (HFO.out _).mono ?_); rintro e w1 ⟨rfl, hb1⟩; have n1 := HS.out.next hb1; have p1 := n1.c0; have q1 := n1.c1; have H1 := Lib.hid n1; clear n1 hb1) | (go_at_call 13; refine (natural_Valid _ _).mono ?_; rintro e w' ⟨rfl, rfl⟩) | (go_at_call 33; (with_reducible refine (HCMP.out _).mono ?_); rintro e w' ⟨rfl, rfl⟩))
            go_ret
            exact ⟨ret_bool HF.out.symm, H1.out.below⟩
        · go_enter Tryz.func67, Tryz.ntmps67
          go_wp2_with (first | (go_at_call 77; (with_reducible refine (HFO.out _).mono ?_); rintro e w1 ⟨rfl, hb1⟩; have n1 := HS.out.next hb1; have p1 := n1.c0; have q1 := n1.c1; have H1 := Lib.hid n1; clear n1 hb1) | (go_at_call 13; refine (natural_Valid _ _).mono ?_; rintro e w' ⟨rfl, rfl⟩))
          go_ret
          exact ⟨ret_bool (by rw [HR2.out, h2, h3, h4]; rfl), H1.out.below⟩
      · go_enter Tryz.func67, Tryz.ntmps67
        go_wp2_with (first | (go_at_call 77; (with_reducible refine (HFO.out _).mono ?_); rintro e w1 ⟨rfl, hb1⟩; have n1 := HS.out.next hb1; have p1 := n1.c0; have q1 := n1.c1; have H1 := Lib.hid n1; clear n1 hb1) | (go_at_call 13; refine (natural_Valid _ _).mono ?_; rintro e w' ⟨rfl, rfl⟩))
        go_ret
        exact ⟨ret_bool (by rw [HR2.out, h2, h3]; rfl), H1.out.below⟩
theorem power_has (m o x : ByteArray) (w : World) (sm : m.size ≤ 8) :
    Calls Tryz.prog 46 #[.agg #[.string m, .string o], .string x] w fun e w' => e = .returned (.bool (hasG m o x)) ∧ Below w.heap.size w w' := by
  have hr : hasG m o x = if o.toList.isEmpty then hasS m o x else pgHas m o x := rfl
  have HR := Lib.hid hr
  have HS := Lib.hid (GrAt.box w m o 24)
  have H1 := Lib.hid (fun w => rsagroup_Has m o x w sm)
  have H2 := Lib.hid (fun w => primegroup_Has m o x w sm)
  generalize hasS m o x = b1 at *
  generalize pgHas m o x = b2 at *
  clear hr
  cases h3 : o.toList.isEmpty
  all_goals
    go_enter Tryz.func46, Tryz.ntmps46
    go_wp2_with (first | (go_at_call 67; (with_reducible refine (H2.out _).mono ?_); rintro e w1 ⟨rfl, hb1⟩) | (go_at_call 35; (with_reducible refine (H1.out _).mono ?_); rintro e w1 ⟨rfl, hb1⟩))
    go_ret
    exact ⟨ret_bool (by rw [HR.out, h3]; rfl), (HS.out.next hb1).below⟩
theorem power_Has (m o x : ByteArray) (w : World) (sm : m.size ≤ 8) :
    Calls Tryz.prog 30 #[.agg #[.string m, .string o], .string x] w fun e w' => e = .returned (.bool (decide (groupE m o = 0) && hasG m o x)) ∧ Below w.heap.size w w' := by
  have HS := Lib.hid (GrAt.box w m o 24)
  have hck := fun w => power_Check m o w sm
  have H1 := Lib.hid (fun w => power_has m o x w sm)
  generalize hasG m o x = b1 at *
  generalize groupE m o = ge at *
  have HCK := Lib.hid hck
  clear hck
  by_cases h : ge = 0
  · subst h
    go_enter Tryz.func30, Tryz.ntmps30
    go_wp2_with (first | (go_at_call 29; (with_reducible refine (HCK.out _).mono ?_); rintro e w1 ⟨rfl, hb1⟩; have n1 := HS.out.next hb1; have p1 := n1.c0; have q1 := n1.c1; have HN := Lib.hid n1; clear n1 hb1) | (go_at_call 46; (with_reducible refine (H1.out _).mono ?_); rintro e w2 ⟨rfl, hb2⟩))
    go_ret
    exact ⟨ret_bool rfl, (HN.out.next hb2).below⟩
  · have k1 : (ge == 0) = false := by rw [beq_eq_false_iff_ne]; exact h
    have HD : Hid ((decide (ge = 0) && b1) = false) := Lib.hid (by rw [decide_eq_false h]; rfl)
    clear h
    go_enter Tryz.func30, Tryz.ntmps30
    go_wp2_with (first | (go_at_call 29; (with_reducible refine (HCK.out _).mono ?_); rintro e w1 ⟨rfl, hb1⟩; have n1 := HS.out.next hb1; have p1 := n1.c0; have q1 := n1.c1; have HN := Lib.hid n1; clear n1 hb1))
    go_ret
    exact ⟨ret_bool HD.out.symm, HN.out.below⟩
end Go.Proofs.YtcpglhjmhegfmaaGreatDoor
