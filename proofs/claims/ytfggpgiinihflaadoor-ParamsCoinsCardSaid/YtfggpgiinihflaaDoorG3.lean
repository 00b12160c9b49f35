/- The walks of package rsagroup: groups with their trapdoors. -/
import Derived.Test.YtfggpgiinihflaaDoorP3
namespace Go.Proofs.YtfggpgiinihflaaDoor
open Go.RowKit
set_option maxRecDepth 100000
set_option linter.unusedVariables false
set_option maxHeartbeats 400000

/-- Whether a number is a safe prime, and the error. -/
def safeS (s : ByteArray) : Bool × Int := (decide ((smallS s).2 = 0) && (isS (smallS s).1 && isS (((smallS s).1 - 1) / 2)), (smallS s).2)
theorem prime_Safe (s : ByteArray) (w : World) (hT : Tab w) :
    Calls Tryd.prog 52 #[.string s] w fun e w' => e = .returned (.tuple #[.bool (safeS s).1, .int .i64 (safeS s).2]) ∧ Below w.heap.size w w' := by
  have hr : (safeS s).1 = (decide ((smallS s).2 = 0) && (isS (smallS s).1 && isS (((smallS s).1 - 1) / 2))) := rfl
  have hr2 : (safeS s).2 = (smallS s).2 := rfl
  have hl := Lib.hid (smallS_lt s)
  have HR := Lib.hid hr
  have HR2 := Lib.hid hr2
  have hsm := prime_small s
  generalize (smallS s).1 = x at *
  generalize (smallS s).2 = er at *
  have HS := Lib.hid hsm
  have HT := Lib.hid hT
  clear hr hr2 hsm hT
  by_cases he : er = 0
  · subst he
    cases h1 : isS x
    · go_enter Tryd.func52, Tryd.ntmps52
      go_wp2_with (first | (go_at_call 54; refine (HS.out _).mono ?_; rintro e w' ⟨rfl, rfl⟩) | (go_at_call 55; refine (prime_is x _ hl.out HT.out).mono ?_; rintro e w' ⟨rfl, hb1⟩))
      go_ret2
      exact ⟨ret_be (by rw [HR.out, h1]; rfl) (by rw [HR2.out]), hb1⟩
    · have hx2 : 2 ≤ x := by
        rcases Nat.lt_or_ge x 2 with h | h
        · rw [isS_small h] at h1; cases h1
        · exact h
      have hw : IntKind.u64.wrap ((x : Int) - 1) = (x : Int) - 1 := by have := hl.out; rw [IntKind.wrap_u64]; omega
      have hdv : IntKind.u64.wrap (((x : Int) - 1) / 2) = (((x - 1) / 2 : Nat) : Int) := by have := hl.out; rw [IntKind.wrap_u64]; omega
      have hdv2 : (((x : Int) - 1) / 2) = (((x - 1) / 2 : Nat) : Int) := by omega
      have hdv3 : IntKind.u64.wrap (((x : Int) - 1).tdiv 2) = (((x - 1) / 2 : Nat) : Int) := by
        rw [Int.tdiv_eq_ediv_of_nonneg (by omega)]; exact hdv
      have hl2 := Lib.hid (show (x - 1) / 2 < 18446744073709551616 by have := hl.out; omega)
      generalize (x - 1) / 2 = y at *
      cases h2 : isS y
      all_goals
        go_enter Tryd.func52, Tryd.ntmps52
        go_wp2_with (first | (go_at_call 54; refine (HS.out _).mono ?_; rintro e w' ⟨rfl, rfl⟩) | (go_at_call 55; (with_reducible refine (prime_is x _ hl.out HT.out).mono ?_); rintro e w' ⟨rfl, hb1⟩; have hT1 := Lib.hid (HT.out.below hb1)) | (go_at_call 55; (with_reducible refine (prime_is y _ hl2.out hT1.out).mono ?_); rintro e w' ⟨rfl, hb2⟩))
        go_ret2
        exact ⟨ret_be (by rw [HR.out, h1, h2]; rfl) (by rw [HR2.out]), below2 hb1 hb2⟩
  · have heb : (er == 0) = false := by rw [beq_eq_false_iff_ne]; exact he
    have HE := Lib.hid he
    clear he
    go_enter Tryd.func52, Tryd.ntmps52
    go_wp2_with (first | (go_at_call 54; refine (HS.out _).mono ?_; rintro e w' ⟨rfl, rfl⟩))
    go_ret2
    exact ⟨ret_be (by rw [HR.out, decide_eq_false HE.out]; rfl) (by rw [HR2.out]), Below.refl _ _⟩

/-- The error of the primes of a trapdoor. -/
def trapS (p q : ByteArray) : Int :=
  if (safeS p).2 ≠ 0 then (safeS p).2 else if (safeS q).2 ≠ 0 then (safeS q).2 else if (safeS p).1 && ((safeS q).1 && !(p.toList == q.toList)) then 0 else 12
theorem Tab.lt {w : World} (h : Tab w) : 0 < w.heap.size := by
  have h1 := h 0 (by decide)
  rcases Nat.lt_or_ge 0 w.heap.size with h2 | h2
  · exact h2
  · simp [World.cell?, Array.getElem?_eq_none h2] at h1
theorem Tab.setCell {w : World} (h : Tab w) {p : Addr} (hp : 0 < p.block) (v : Value) : Tab (w.setCell p v) := by
  intro j hj
  rw [← h j hj]
  exact World.cell?_setCell_other w p _ v (fun e => by subst e; exact absurd hp (Nat.lt_irrefl _))
theorem Tab.alloc {w : World} (h : Tab w) (o : Obj) : Tab (w.alloc o) := h.below ((Below.refl _ _).alloc (Nat.le_refl _) _)
theorem below_safe {w w1 w2 w3 : World} {o1 o2 o3 : Obj} {v1 : Value} {p : Addr} (hp : w.heap.size ≤ p.block) (hb1 : Below (w.alloc o1).heap.size (w.alloc o1) w1) (hb2 : Below ((w1.alloc o2).alloc o3).heap.size ((w1.alloc o2).alloc o3) w2)
    (hb3 : Below (w2.setCell p v1).heap.size (w2.setCell p v1) w3) : Below w.heap.size w w3 := by
  have s1 := hb1.size
  have s2 := hb2.size
  simp at s1 s2
  have a : Below w.heap.size w ((w1.alloc o2).alloc o3) := ((((Below.refl _ _).alloc (Nat.le_refl _) _).trans (hb1.mono (by simp))).alloc (by omega) _).alloc (by simp; omega) _
  exact ((a.trans (hb2.mono (by simp; omega))).setCell hp _).trans (hb3.mono (by simp; omega))
theorem below_safe1 {w w1 w2 : World} {o1 o2 o3 : Obj} {v1 : Value} {p : Addr} (hp : w.heap.size ≤ p.block) (hb1 : Below (w.alloc o1).heap.size (w.alloc o1) w1) (hb2 : Below ((w1.alloc o2).alloc o3).heap.size ((w1.alloc o2).alloc o3) w2) : Below w.heap.size w (w2.setCell p v1) := by
  have s1 := hb1.size
  have s2 := hb2.size
  simp at s1 s2
  have a : Below w.heap.size w ((w1.alloc o2).alloc o3) := ((((Below.refl _ _).alloc (Nat.le_refl _) _).trans (hb1.mono (by simp))).alloc (by omega) _).alloc (by simp; omega) _
  exact (a.trans (hb2.mono (by simp; omega))).setCell hp _
theorem rsagroup_safe (p q : ByteArray) (w : World) (hT : Tab w) :
    Calls Tryd.prog 35 #[.agg #[.string p, .string q]] w fun e w' => e = .returned (.int .i64 (trapS p q)) ∧ Below w.heap.size w w' := by
  have hlt0 := Lib.hid hT.lt
  have HT := Lib.hid hT
  clear hT
  have hr : trapS p q = if (safeS p).2 ≠ 0 then (safeS p).2 else if (safeS q).2 ≠ 0 then (safeS q).2 else if (safeS p).1 && ((safeS q).1 && !(p.toList == q.toList)) then 0 else 12 := rfl
  have hsp := prime_Safe p
  have hsq := prime_Safe q
  generalize (safeS p).1 = a1 at *
  generalize (safeS p).2 = e1 at *
  generalize (safeS q).1 = a2 at *
  generalize (safeS q).2 = e2 at *
  have HR := Lib.hid hr
  have HP := Lib.hid hsp
  have HQ := Lib.hid hsq
  clear hr hsp hsq
  by_cases h1 : e1 = 0
  · subst h1
    by_cases h2 : e2 = 0
    · subst h2
      cases a1 <;> cases a2 <;> cases hpq : (p.toList == q.toList)
      all_goals
        go_enter Tryd.func35, Tryd.ntmps35
        go_wp2_with (first | (go_at_call 51; refine (rsagroup_primes _ _ _).mono ?_; rintro e w1 ⟨rfl, hb1⟩; have hcw1 := (bcell hb1).1))
        have hT1 := Lib.hid ((HT.out.below ((Below.refl _ _).alloc (Nat.le_refl _) _)).below hb1)
        have hs1 := hb1.size
        refine wp_loop_rounds 3 ?_
        rw [rounds_succ]
        go_wp2_with fail
        refine (HP.out _ ?_).mono ?_
        · exact (hT1.out.alloc _).alloc _
        rintro e w2 ⟨rfl, hb2⟩
        have hcw2 := (bcell hb2).1
        have hfw2 := (bcell hb2).2
        have hT2 := Lib.hid (((hT1.out.alloc _).alloc _).below hb2)
        have hs2 : w1.heap.size + 1 < w2.heap.size := by have := hb2.size; simp at this; omega
        go_wp2_with fail
        rw [rounds_succ]
        go_wp2_with fail
        refine (HQ.out _ ?_).mono ?_
        · exact hT2.out.setCell (show 0 < w1.heap.size + 1 by have h1 := hlt0.out; simp at hs1; omega) _
        rintro e w3 ⟨rfl, hb3⟩
        have hcw3 := (bcell hb3).1
        have hfw3 := (bcell hb3).2
        have hs3 : w1.heap.size + 1 < w3.heap.size := by have := hb3.size; simp at this; omega
        have hq3 : w.heap.size < w3.heap.size := by simp at hs1; omega
        have hq2 : w.heap.size < w2.heap.size := by simp at hs1; omega
        have hq1 : w.heap.size < w1.heap.size := by simp at hs1; omega
        have hq4 : w.heap.size < w1.heap.size + 1 := by omega
        have hq5 : w.heap.size < w1.heap.size + 1 + 1 := by omega
        have hne : ¬ w.heap.size = w1.heap.size + 1 := by omega
        have hne2 : ¬ w1.heap.size + 1 = w.heap.size := by omega
        go_wp2_with fail
        rw [rounds_succ]
        go_wp2_with fail
        go_ret
        exact ⟨ret_int (by rw [HR.out]; simp [hpq]), (below_safe (show w.heap.size ≤ w1.heap.size + 1 by simp at hs1; omega) hb1 hb2 hb3).setCell (show w.heap.size ≤ w1.heap.size + 1 by simp at hs1; omega) _⟩
    · have heb : (e2 != 0) = true := by rw [bne_iff_ne]; exact h2
      have HE := Lib.hid h2
      clear h2
      go_enter Tryd.func35, Tryd.ntmps35
      go_wp2_with (first | (go_at_call 51; refine (rsagroup_primes _ _ _).mono ?_; rintro e w1 ⟨rfl, hb1⟩; have hcw1 := (bcell hb1).1))
      have hT1 := Lib.hid ((HT.out.below ((Below.refl _ _).alloc (Nat.le_refl _) _)).below hb1)
      have hs1 := hb1.size
      refine wp_loop_rounds 3 ?_
      rw [rounds_succ]
      go_wp2_with fail
      refine (HP.out _ ?_).mono ?_
      · exact (hT1.out.alloc _).alloc _
      rintro e w2 ⟨rfl, hb2⟩
      have hcw2 := (bcell hb2).1
      have hfw2 := (bcell hb2).2
      have hT2 := Lib.hid (((hT1.out.alloc _).alloc _).below hb2)
      have hs2 : w1.heap.size + 1 < w2.heap.size := by have := hb2.size; simp at this; omega
      go_wp2_with fail
      rw [rounds_succ]
      go_wp2_with fail
      refine (HQ.out _ ?_).mono ?_
      · exact hT2.out.setCell (show 0 < w1.heap.size + 1 by have h1 := hlt0.out; simp at hs1; omega) _
      rintro e w3 ⟨rfl, hb3⟩
      have hcw3 := (bcell hb3).1
      have hfw3 := (bcell hb3).2
      have hs3 : w1.heap.size + 1 < w3.heap.size := by have := hb3.size; simp at this; omega
      go_wp2_with fail
      go_ret
      exact ⟨ret_int (by rw [HR.out, if_neg (by simp), if_pos HE.out] <;> rfl), (below_safe (show w.heap.size ≤ w1.heap.size + 1 by simp at hs1; omega) hb1 hb2 hb3).setCell (show w.heap.size ≤ w1.heap.size + 1 by simp at hs1; omega) _⟩
  · have heb : (e1 != 0) = true := by rw [bne_iff_ne]; exact h1
    have HE := Lib.hid h1
    clear h1
    go_enter Tryd.func35, Tryd.ntmps35
    go_wp2_with (first | (go_at_call 51; refine (rsagroup_primes _ _ _).mono ?_; rintro e w1 ⟨rfl, hb1⟩; have hcw1 := (bcell hb1).1))
    have hT1 := Lib.hid ((HT.out.below ((Below.refl _ _).alloc (Nat.le_refl _) _)).below hb1)
    have hs1 := hb1.size
    refine wp_loop_rounds 3 ?_
    rw [rounds_succ]
    go_wp2_with fail
    refine (HP.out _ ?_).mono ?_
    · exact (hT1.out.alloc _).alloc _
    rintro e w2 ⟨rfl, hb2⟩
    have hcw2 := (bcell hb2).1
    have hfw2 := (bcell hb2).2
    have hT2 := Lib.hid (((hT1.out.alloc _).alloc _).below hb2)
    have hs2 : w1.heap.size + 1 < w2.heap.size := by have := hb2.size; simp at this; omega
    go_wp2_with fail
    go_ret
    exact ⟨ret_int (by rw [HR.out, if_pos HE.out] <;> rfl), below_safe1 (show w.heap.size ≤ w1.heap.size + 1 by simp at hs1; omega) hb1 hb2⟩

/-- The error of a group with its trapdoor. -/
def checkS (m o p q : ByteArray) : Int :=
  if valid m && (valid o && (valid p && valid q)) then
    if goodS m o then if (natMul p q).2 = 0 ∧ ((natMul p q).1.toList == m.toList) = true then trapS p q else 1 else 13
  else 3
theorem rsagroup_Check (m o p q : ByteArray) (w : World) (sm : m.size ≤ 8) (hT : Tab w) :
    Calls Tryd.prog 18 #[.agg #[.string m, .string o], .agg #[.string p, .string q]] w fun e w' => e = .returned (.int .i64 (checkS m o p q)) ∧ Below w.heap.size w w' := by
  have hr : checkS m o p q = if valid m && (valid o && (valid p && valid q)) then
    if goodS m o then if (natMul p q).2 = 0 ∧ ((natMul p q).1.toList == m.toList) = true then trapS p q else 1 else 13 else 3 := rfl
  have HR := Lib.hid hr
  have hmul := natural_Mul p q
  have HMUL := Lib.hid hmul
  have HT := Lib.hid ((hT.alloc (.cells #[.string m, .string o] 43)).alloc (.cells #[.string p, .string q] 45))
  clear hr hmul hT
  have fin0 : Below w.heap.size w ((w.alloc (.cells #[.string m, .string o] 43)).alloc (.cells #[.string p, .string q] 45)) := ((Below.refl _ _).alloc (Nat.le_refl _) _).alloc (by simp) _
  have F0 := Lib.hid fin0
  clear fin0
  by_cases hv : (valid m && (valid o && (valid p && valid q))) = true
  · have hv' := hv
    simp only [Bool.and_eq_true] at hv'
    obtain ⟨v1, v2, v3, v4⟩ := hv'
    rw [if_pos hv] at HR
    clear hv
    cases hg : goodS m o
    · go_enter Tryd.func18, Tryd.ntmps18
      go_wp2_with (first | (go_at_call 33; refine (natural_Valid _ _).mono ?_; rintro e w' ⟨rfl, rfl⟩) | (go_at_call 34; refine (rsagroup_good _ _ _ (by omega)).mono ?_; rintro e w1 ⟨rfl, hb1⟩; have hcw1 := (bcell hb1).1))
      go_ret
      exact ⟨ret_int (by rw [HR.out, hg]; rfl), below2 F0.out hb1⟩
    · generalize (natMul p q).1 = ms at *
      generalize (natMul p q).2 = me at *
      by_cases he : me = 0
      · subst he
        cases hms : (ms.toList == m.toList)
        · go_enter Tryd.func18, Tryd.ntmps18
          go_wp2_with (first | (go_at_call 33; refine (natural_Valid _ _).mono ?_; rintro e w' ⟨rfl, rfl⟩) | (go_at_call 34; refine (rsagroup_good _ _ _ (by omega)).mono ?_; rintro e w1 ⟨rfl, hb1⟩; have hcw1 := (bcell hb1).1; have hs1 := hb1.size; have hq1 : w.heap.size < w1.heap.size := by { simp at hs1; omega }; have hq2 : w.heap.size + 1 < w1.heap.size := by { simp at hs1; omega }) | (go_at_call 32; refine (HMUL.out _).mono ?_; rintro e w2 ⟨rfl, hb2⟩; have hcw2 := (bcell hb2).1; have hs2 := hb2.size) | (go_at_call 35; refine (rsagroup_safe p q _ ((HT.out.below hb1).below hb2)).mono ?_; rintro e w3 ⟨rfl, hb3⟩))
          go_ret
          exact ⟨ret_int (by rw [HR.out, hg, hms]; simp), below2 (below2 F0.out hb1) hb2⟩
        · go_enter Tryd.func18, Tryd.ntmps18
          go_wp2_with (first | (go_at_call 33; refine (natural_Valid _ _).mono ?_; rintro e w' ⟨rfl, rfl⟩) | (go_at_call 34; refine (rsagroup_good _ _ _ (by omega)).mono ?_; rintro e w1 ⟨rfl, hb1⟩; have hcw1 := (bcell hb1).1; have hs1 := hb1.size; have hq1 : w.heap.size < w1.heap.size := by { simp at hs1; omega }; have hq2 : w.heap.size + 1 < w1.heap.size := by { simp at hs1; omega }) | (go_at_call 32; refine (HMUL.out _).mono ?_; rintro e w2 ⟨rfl, hb2⟩; have hcw2 := (bcell hb2).1; have hs2 := hb2.size) | (go_at_call 35; refine (rsagroup_safe p q _ ((HT.out.below hb1).below hb2)).mono ?_; rintro e w3 ⟨rfl, hb3⟩))
          go_ret
          exact ⟨ret_int (by rw [HR.out, hg, hms]; simp), below2 (below2 (below2 F0.out hb1) hb2) hb3⟩
      · have heb : (me != 0) = true := by rw [bne_iff_ne]; exact he
        have HE := Lib.hid he
        clear he
        go_enter Tryd.func18, Tryd.ntmps18
        go_wp2_with (first | (go_at_call 33; refine (natural_Valid _ _).mono ?_; rintro e w' ⟨rfl, rfl⟩) | (go_at_call 34; refine (rsagroup_good _ _ _ (by omega)).mono ?_; rintro e w1 ⟨rfl, hb1⟩; have hcw1 := (bcell hb1).1; have hs1 := hb1.size; have hq1 : w.heap.size < w1.heap.size := by { simp at hs1; omega }; have hq2 : w.heap.size + 1 < w1.heap.size := by { simp at hs1; omega }) | (go_at_call 32; refine (HMUL.out _).mono ?_; rintro e w2 ⟨rfl, hb2⟩; have hcw2 := (bcell hb2).1; have hs2 := hb2.size) | (go_at_call 35; refine (rsagroup_safe p q _ ((HT.out.below hb1).below hb2)).mono ?_; rintro e w3 ⟨rfl, hb3⟩))
        go_ret
        exact ⟨ret_int (by rw [HR.out, hg, if_pos rfl, if_neg (fun h => HE.out h.1)] <;> rfl), below2 (below2 F0.out hb1) hb2⟩
  · rw [if_neg hv] at HR
    cases v1 : valid m
    · clear hv
      go_enter Tryd.func18, Tryd.ntmps18
      go_wp2_with (first | (go_at_call 33; refine (natural_Valid _ _).mono ?_; rintro e w' ⟨rfl, rfl⟩) | (go_at_call 34; refine (rsagroup_good _ _ _ (by omega)).mono ?_; rintro e w1 ⟨rfl, hb1⟩; have hcw1 := (bcell hb1).1; have hs1 := hb1.size; have hq1 : w.heap.size < w1.heap.size := by { simp at hs1; omega }; have hq2 : w.heap.size + 1 < w1.heap.size := by { simp at hs1; omega }) | (go_at_call 32; refine (HMUL.out _).mono ?_; rintro e w2 ⟨rfl, hb2⟩; have hcw2 := (bcell hb2).1; have hs2 := hb2.size) | (go_at_call 35; refine (rsagroup_safe p q _ ((HT.out.below hb1).below hb2)).mono ?_; rintro e w3 ⟨rfl, hb3⟩))
      go_ret
      exact ⟨ret_int (by rw [HR.out] <;> rfl), F0.out⟩
    · cases v2 : valid o
      · clear hv
        go_enter Tryd.func18, Tryd.ntmps18
        go_wp2_with (first | (go_at_call 33; refine (natural_Valid _ _).mono ?_; rintro e w' ⟨rfl, rfl⟩) | (go_at_call 34; refine (rsagroup_good _ _ _ (by omega)).mono ?_; rintro e w1 ⟨rfl, hb1⟩; have hcw1 := (bcell hb1).1; have hs1 := hb1.size; have hq1 : w.heap.size < w1.heap.size := by { simp at hs1; omega }; have hq2 : w.heap.size + 1 < w1.heap.size := by { simp at hs1; omega }) | (go_at_call 32; refine (HMUL.out _).mono ?_; rintro e w2 ⟨rfl, hb2⟩; have hcw2 := (bcell hb2).1; have hs2 := hb2.size) | (go_at_call 35; refine (rsagroup_safe p q _ ((HT.out.below hb1).below hb2)).mono ?_; rintro e w3 ⟨rfl, hb3⟩))
        go_ret
        exact ⟨ret_int (by rw [HR.out] <;> rfl), F0.out⟩
      · cases v3 : valid p
        · clear hv
          go_enter Tryd.func18, Tryd.ntmps18
          go_wp2_with (first | (go_at_call 33; refine (natural_Valid _ _).mono ?_; rintro e w' ⟨rfl, rfl⟩) | (go_at_call 34; refine (rsagroup_good _ _ _ (by omega)).mono ?_; rintro e w1 ⟨rfl, hb1⟩; have hcw1 := (bcell hb1).1; have hs1 := hb1.size; have hq1 : w.heap.size < w1.heap.size := by { simp at hs1; omega }; have hq2 : w.heap.size + 1 < w1.heap.size := by { simp at hs1; omega }) | (go_at_call 32; refine (HMUL.out _).mono ?_; rintro e w2 ⟨rfl, hb2⟩; have hcw2 := (bcell hb2).1; have hs2 := hb2.size) | (go_at_call 35; refine (rsagroup_safe p q _ ((HT.out.below hb1).below hb2)).mono ?_; rintro e w3 ⟨rfl, hb3⟩))
          go_ret
          exact ⟨ret_int (by rw [HR.out] <;> rfl), F0.out⟩
        · cases v4 : valid q
          · clear hv
            go_enter Tryd.func18, Tryd.ntmps18
            go_wp2_with (first | (go_at_call 33; refine (natural_Valid _ _).mono ?_; rintro e w' ⟨rfl, rfl⟩) | (go_at_call 34; refine (rsagroup_good _ _ _ (by omega)).mono ?_; rintro e w1 ⟨rfl, hb1⟩; have hcw1 := (bcell hb1).1; have hs1 := hb1.size; have hq1 : w.heap.size < w1.heap.size := by { simp at hs1; omega }; have hq2 : w.heap.size + 1 < w1.heap.size := by { simp at hs1; omega }) | (go_at_call 32; refine (HMUL.out _).mono ?_; rintro e w2 ⟨rfl, hb2⟩; have hcw2 := (bcell hb2).1; have hs2 := hb2.size) | (go_at_call 35; refine (rsagroup_safe p q _ ((HT.out.below hb1).below hb2)).mono ?_; rintro e w3 ⟨rfl, hb3⟩))
            go_ret
            exact ⟨ret_int (by rw [HR.out] <;> rfl), F0.out⟩
          · exact absurd (by rw [v1, v2, v3, v4]; rfl) hv

end Go.Proofs.YtfggpgiinihflaaDoor
