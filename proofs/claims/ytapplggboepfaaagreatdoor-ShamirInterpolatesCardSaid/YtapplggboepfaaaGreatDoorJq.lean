/- The reference's shamir (19): Coefs, Interpolate = intS, Fits = fitsS, Combine = combS. The program's Fits = fitsS. -/
import Derived.Test.YtapplggboepfaaaGreatDoorJp
namespace Go.Proofs.YtapplggboepfaaaGreatDoor
open Go.RowKit
set_option maxRecDepth 100000
set_option linter.unusedVariables false
set_option linter.unusedSimpArgs false
set_option maxHeartbeats 8000000

theorem r19_Coefs (q : ByteArray) (xs ys : List ByteArray) (A A2 : Option Addr) (n n2 c c2 : Nat) (w : World) (hn : xs.length = n) (hn2 : ys.length = n2) (hm : n ≤ 1000) (hm2 : n2 ≤ 1000) (h : SLs w w.heap.size A xs) (h' : SLs w w.heap.size A2 ys) :
    Calls Tryz.prog 16 #[.string q, .slice A n c, .slice A2 n2 c2] w fun e w' => ((ptsE q xs ys ⟨#[]⟩ = 0 ∧ ∃ g, e = .returned (.tuple #[.slice (some ⟨g, 0, none⟩) n n, .int .i64 0]) ∧ RowN w' g (thruL (num q) (xs.map num) (ys.map num))) ∨
      (ptsE q xs ys ⟨#[]⟩ ≠ 0 ∧ e = .returned (.tuple #[.slice none 0 0, .int .i64 (ptsE q xs ys ⟨#[]⟩)]))) ∧ Below w.heap.size w w' := by
  have KP := fun w1 (h1 : Below w.heap.size w w1) => r19_points q ⟨#[]⟩ xs ys A A2 n n2 c c2 w1 hn hn2 hm hm2 (h.to h1) (h'.to h1)
  obtain ⟨e0, he0⟩ : ∃ e0, e0 = ptsE q xs ys ⟨#[]⟩ := ⟨_, rfl⟩
  simp only [← he0] at KP
  have KP := Lib.hid KP
  rw [← he0]
  by_cases h0 : e0 = 0
  · subst h0
    obtain ⟨Q, hQ, hQn, hl, hl256, hx, hy, hxx, htw⟩ := ptsE_zero he0.symm
    clear hxx htw
    have KT := fun w1 (h1 : Below w.heap.size w w1) => r19_Through Q (xs.map num) (ys.map num) A A2 n c c2 w1 hQ.lt hQ.two hx.2 hy.2 (by rw [List.length_map]; exact hn) (by rw [List.length_map]; omega) (by omega) (by rw [← hx.1]; exact h.to h1) (by rw [← hy.1]; exact h'.to h1)
    rw [← hQ.eq] at KT
    have hnn : n2 = n := by omega
    subst hnn
    rw [hQn] at KT
    have KT := Lib.hid KT
    clear hn hn2 hm hm2 h h' he0 hQ hQn hl hl256 hx hy
    go_enter Tryz.func16, Tryz.ntmps16
    go_wp2_with (first
      | (go_at_call 39; (with_reducible refine (KP.out _ (Below.refl _ _)).mono ?_); rintro e w1 ⟨rfl, hb1⟩; have HB1 := Lib.hid hb1; clear hb1)
      | (go_at_call 40; (with_reducible refine (KT.out _ HB1.out).mono ?_); rintro e w2 ⟨rfl, hr2, hb2⟩; have HR2 := Lib.hid hr2; have HB2 := Lib.hid (below2 HB1.out hb2); clear hr2 hb2))
    go_ret2
    exact ⟨.inl ⟨by first | trivial | rfl, _, rfl, HR2.out⟩, HB2.out⟩
  · have k0 : (e0 == 0) = false := by rw [beq_eq_false_iff_ne]; exact h0
    have H0 := Lib.hid h0
    clear hn hn2 hm hm2 h h' he0 h0
    go_enter Tryz.func16, Tryz.ntmps16
    go_wp2_with (first
      | (go_at_call 39; (with_reducible refine (KP.out _ (Below.refl _ _)).mono ?_); rintro e w1 ⟨rfl, hb1⟩; have HB1 := Lib.hid hb1; clear hb1))
    go_ret2
    exact ⟨.inr ⟨H0.out, rfl⟩, HB1.out⟩
theorem r19_Interpolate (q x : ByteArray) (xs ys : List ByteArray) (A A2 : Option Addr) (n n2 c c2 : Nat) (w : World) (hn : xs.length = n) (hn2 : ys.length = n2) (hm : n ≤ 1000) (hm2 : n2 ≤ 1000) (h : SLs w w.heap.size A xs) (h' : SLs w w.heap.size A2 ys) :
    Calls Tryz.prog 18 #[.string q, .slice A n c, .slice A2 n2 c2, .string x] w fun e w' => e = .returned (.tuple #[.string (intS q xs ys x).1, .int .i64 (intS q xs ys x).2]) ∧ Below w.heap.size w w' := by
  have KP := fun w1 (h1 : Below w.heap.size w w1) => r19_points q x xs ys A A2 n n2 c c2 w1 hn hn2 hm hm2 (h.to h1) (h'.to h1)
  obtain ⟨r, hr⟩ : ∃ r, r = intS q xs ys x := ⟨_, rfl⟩
  rw [← hr]
  unfold intS at hr
  obtain ⟨e0, he0⟩ : ∃ e0, e0 = ptsE q xs ys x := ⟨_, rfl⟩
  simp only [← he0] at KP hr
  have KP := Lib.hid KP
  by_cases h0 : e0 = 0
  · subst h0
    rw [if_pos rfl] at hr
    subst hr
    obtain ⟨Q, hQ, hQn, hl, hl256, hx, hy, hxx, htw⟩ := ptsE_zero he0.symm
    clear htw
    have KT := fun w1 (h1 : Below w.heap.size w w1) => r19_Through Q (xs.map num) (ys.map num) A A2 n c c2 w1 hQ.lt hQ.two hx.2 hy.2 (by rw [List.length_map]; exact hn) (by rw [List.length_map]; omega) (by omega) (by rw [← hx.1]; exact h.to h1) (by rw [← hy.1]; exact h'.to h1)
    have KV := fun w1 g (h1 : RowN w1 g (thruL Q (xs.map num) (ys.map num))) => r19_Value Q (num x) (thruL Q (xs.map num) (ys.map num)) (some ⟨g, 0, none⟩) n n w1 hQ.lt hxx.2 (thruL_lt (Nat.lt_of_lt_of_le (by decide) hQ.two) _ _) (by rw [thruL_length, List.length_map]; exact hn) (by omega) h1.sls
    rw [← hQ.eq] at KT KV
    have hnn : n2 = n := by omega
    subst hnn
    rw [hQn] at KT KV
    rw [← hxx.1] at KV
    have KT := Lib.hid KT
    have KV := Lib.hid KV
    clear hn hn2 hm hm2 h h' he0 hQ hQn hl hl256 hx hy hxx
    go_enter Tryz.func18, Tryz.ntmps18
    go_wp2_with (first
      | (go_at_call 39; (with_reducible refine (KP.out _ (Below.refl _ _)).mono ?_); rintro e w1 ⟨rfl, hb1⟩; have HB1 := Lib.hid hb1; clear hb1)
      | (go_at_call 40; (with_reducible refine (KT.out _ HB1.out).mono ?_); rintro e w2 ⟨rfl, hr2, hb2⟩; have HR2 := Lib.hid hr2; have HB2 := Lib.hid (below2 HB1.out hb2); clear hr2 hb2)
      | (go_at_call 41; (with_reducible refine (KV.out _ _ HR2.out).mono ?_); rintro e w3 ⟨rfl, hb3⟩; have HB3 := Lib.hid (below2 HB2.out hb3); clear hb3))
    go_ret2
    exact ⟨rfl, HB3.out⟩
  · have k0 : (e0 == 0) = false := by rw [beq_eq_false_iff_ne]; exact h0
    rw [if_neg h0] at hr
    subst hr
    clear hn hn2 hm hm2 h h' he0 h0
    go_enter Tryz.func18, Tryz.ntmps18
    go_wp2_with (first
      | (go_at_call 39; (with_reducible refine (KP.out _ (Below.refl _ _)).mono ?_); rintro e w1 ⟨rfl, hb1⟩; have HB1 := Lib.hid hb1; clear hb1))
    go_ret2
    exact ⟨rfl, HB1.out⟩
/-- Whether coefficients beyond a degree are 0. -/
def fitsB (L : List Nat) (d : Int) : Bool := (List.range L.length).all fun i => !(decide (d < (i : Int)) && !decide (L.getD i 0 = 0))
theorem fitsB_no {L : List Nat} {d : Int} {i : Nat} (hi : i < L.length) (h1 : d < (i : Int)) (h2 : L.getD i 0 ≠ 0) : fitsB L d = false := by
  unfold fitsB
  rw [List.all_eq_false]
  refine ⟨i, List.mem_range.2 hi, ?_⟩
  rw [decide_eq_true h1, decide_eq_false h2]; decide
theorem fitsB_yes {L : List Nat} {d : Int} (h : ∀ i, i < L.length → d < (i : Int) → L.getD i 0 = 0) : fitsB L d = true := by
  unfold fitsB
  rw [List.all_eq_true]
  intro i hi
  by_cases hd : d < (i : Int)
  · rw [decide_eq_true (h i (List.mem_range.1 hi) hd)]; simp
  · rw [decide_eq_false hd]; rfl
def fitsS (q : ByteArray) (xs ys : List ByteArray) (d : Int) : Bool × Int :=
  if ptsE q xs ys ⟨#[]⟩ = 0 then (fitsB (thruL (num q) (xs.map num) (ys.map num)) d, 0) else (false, ptsE q xs ys ⟨#[]⟩)
theorem ret_bi {a b : Bool} {x y : Int} (h1 : a = b) (h2 : x = y) : Ending.returned (.tuple #[.bool a, .int .i64 x]) = .returned (.tuple #[.bool b, .int .i64 y]) := by rw [h1, h2]
theorem r19_Fits (q : ByteArray) (xs ys : List ByteArray) (d : Int) (A A2 : Option Addr) (n n2 c c2 : Nat) (w : World) (hn : xs.length = n) (hn2 : ys.length = n2) (hm : n ≤ 900) (hm2 : n2 ≤ 1000) (h : SLs w w.heap.size A xs) (h' : SLs w w.heap.size A2 ys) :
    Calls Tryz.prog 20 #[.string q, .slice A n c, .slice A2 n2 c2, .int .i64 d] w fun e w' => e = .returned (.tuple #[.bool (fitsS q xs ys d).1, .int .i64 (fitsS q xs ys d).2]) ∧ Below w.heap.size w w' := by
  have KC := r19_Coefs q xs ys A A2 n n2 c c2 w hn hn2 (by omega) hm2 h h'
  obtain ⟨r, hr⟩ : ∃ r, r = fitsS q xs ys d := ⟨_, rfl⟩
  rw [← hr]
  unfold fitsS at hr
  have hll : (thruL (num q) (xs.map num) (ys.map num)).length = n := by rw [thruL_length, List.length_map]; exact hn
  obtain ⟨e0, he0⟩ : ∃ e0, e0 = ptsE q xs ys ⟨#[]⟩ := ⟨_, rfl⟩
  obtain ⟨L, hL⟩ : ∃ L, L = thruL (num q) (xs.map num) (ys.map num) := ⟨_, rfl⟩
  rw [← he0, ← hL] at KC
  rw [← he0, ← hL] at hr
  rw [← hL] at hll
  have KC := Lib.hid KC
  by_cases h0 : e0 = 0
  · subst h0
    rw [if_pos rfl] at hr
    subst hr
    have HLL := Lib.hid (And.intro hll hm)
    clear hn hn2 hm hm2 h h' he0 hL hll
    go_enter Tryz.func20, Tryz.ntmps20
    go_wp2_with (first
      | (go_at_call 16; (with_reducible refine KC.out.mono ?_); rintro e w1 ⟨h1, hb1⟩; have HB1 := Lib.hid hb1; rcases h1 with ⟨_, g, rfl, hr1⟩ | ⟨hne, _⟩; rotate_left; (exact absurd rfl hne); have HR1 := Lib.hid hr1; clear hr1 hb1))
    go_loop [12] (fun v => ∃ i : Nat, v = .int .i64 i ∧ i ≤ n ∧ ∀ t, t < i → d < (t : Int) → L.getD t 0 = 0) (fun v => n - (intOf v).toNat)
    case atStart => exact ⟨0, rfl, Nat.zero_le _, fun t ht => absurd ht (Nat.not_lt_zero _)⟩
    case round =>
      obtain ⟨i, rfl, hi, hok⟩ := hrel
      have HOK := Lib.hid hok
      clear hok
      by_cases hin : i < n
      · have k1 : decide (i < n) = true := decide_eq_true hin
        have c0 := (HR1.out i (by rw [HLL.out.1]; exact hin)).1
        obtain ⟨x, hx⟩ : ∃ x, x = L.getD i 0 := ⟨_, rfl⟩
        rw [← hx] at c0
        have HX := Lib.hid hx
        have HIN := Lib.hid hin
        have i1 : (i : Int) < (n : Int) := by omega
        have i2 : (0 : Int) ≤ (i : Int) := by omega
        by_cases hd : d < (i : Int)
        · have k2 : decide (d < (i : Int)) = true := decide_eq_true hd
          have HD := Lib.hid hd
          by_cases hz : x = 0
          · have e1 : (B x).toList.isEmpty = true := by rw [B_isEmpty, hz]; rfl
            have HZ := Lib.hid hz
            clear hi hin hx hd hz
            go_wp2_with fail
            go_round
            case rel => exact ⟨i + 1, stp64 HIN.out HLL.out.2, HIN.out, fun t ht htd => by
              by_cases e : t = i
              · subst e; rw [← HX.out]; exact HZ.out
              · exact HOK.out t (by omega) htd⟩
            case measure => exact mes64 HIN.out HLL.out.2
          · have e1 : (B x).toList.isEmpty = false := B_isEmpty_false hz
            have HF : Hid (fitsB L d = false) := Lib.hid (fitsB_no (i := i) (by rw [HLL.out.1]; exact HIN.out) HD.out (by rw [← HX.out]; exact hz))
            clear hi hin hx hd hz
            go_wp2_with fail
            go_ret2
            exact ⟨ret_bi HF.out.symm rfl, HB1.out⟩
        · have k2 : decide (d < (i : Int)) = false := decide_eq_false hd
          have HD := Lib.hid hd
          clear hi hin hx hd
          go_wp2_with fail
          go_round
          case rel => exact ⟨i + 1, stp64 HIN.out HLL.out.2, HIN.out, fun t ht htd => by
            by_cases e : t = i
            · subst e; exact absurd htd HD.out
            · exact HOK.out t (by omega) htd⟩
          case measure => exact mes64 HIN.out HLL.out.2
      · obtain rfl : i = n := by omega
        have k1 : decide (i < i) = false := decide_eq_false (Nat.lt_irrefl _)
        have HF : Hid (fitsB L d = true) := Lib.hid (fitsB_yes (fun t ht htd => HOK.out t (by rw [← HLL.out.1]; exact ht) htd))
        clear hi hin
        go_wp2_with fail
        go_ret2
        exact ⟨ret_bi HF.out.symm rfl, HB1.out⟩
  · have k0 : (e0 == 0) = false := by rw [beq_eq_false_iff_ne]; exact h0
    rw [if_neg h0] at hr
    subst hr
    have H0 := Lib.hid h0
    clear hn hn2 hm hm2 h h' he0 h0 hL hll
    go_enter Tryz.func20, Tryz.ntmps20
    go_wp2_with (first
      | (go_at_call 16; (with_reducible refine KC.out.mono ?_); rintro e w1 ⟨h1, hb1⟩; have HB1 := Lib.hid hb1; rcases h1 with ⟨hz, _⟩ | ⟨_, rfl⟩; (exact absurd hz H0.out); clear hb1))
    go_ret2
    exact ⟨rfl, HB1.out⟩
theorem shamir_Fits (q : ByteArray) (xs ys : List ByteArray) (d : Int) (A A2 : Option Addr) (n n2 c c2 : Nat) (w : World) (hn : xs.length = n) (hn2 : ys.length = n2) (hm : n ≤ 900) (hm2 : n2 ≤ 1000) (h : SLs w w.heap.size A xs) (h' : SLs w w.heap.size A2 ys) (hT : Tab w) :
    Calls Tryz.prog 19 #[.string q, .slice A n c, .slice A2 n2 c2, .int .i64 d] w fun e w' => e = .returned (.tuple #[.bool (fitsS q xs ys d).1, .int .i64 (fitsS q xs ys d).2]) ∧ Below w.heap.size w w' := by
  have KP := fun w1 (h1 : Below w.heap.size w w1) => shamir_points q ⟨#[]⟩ xs ys A A2 n n2 c c2 w1 hn hn2 (by omega) hm2 (h.to h1) (h'.to h1) (hT.below h1)
  obtain ⟨r, hr⟩ : ∃ r, r = fitsS q xs ys d := ⟨_, rfl⟩
  rw [← hr]
  unfold fitsS at hr
  obtain ⟨e0, he0⟩ : ∃ e0, e0 = ptsE q xs ys ⟨#[]⟩ := ⟨_, rfl⟩
  simp only [← he0] at KP hr
  have KP := Lib.hid KP
  by_cases h0 : e0 = 0
  · subst h0
    rw [if_pos rfl] at hr
    subst hr
    obtain ⟨Q, hQ, hQn, hl, hl256, hx, hy, hxx, htw⟩ := ptsE_zero he0.symm
    have KT := fun w1 (h1 : Below w.heap.size w w1) => shamir_through Q (xs.map num) (ys.map num) A A2 n c c2 w1 hQ.lt hQ.two hx.2 hy.2 (by rw [List.length_map]; exact hn) (by rw [List.length_map]; omega) hm (by rw [← hx.1]; exact h.to h1) (by rw [← hy.1]; exact h'.to h1)
    have hll : (thruL (num q) (xs.map num) (ys.map num)).length = n := by rw [thruL_length, List.length_map]; exact hn
    rw [← hQ.eq, hQn] at KT
    have hnn : n2 = n := by omega
    subst hnn
    obtain ⟨L, hL⟩ : ∃ L, L = thruL (num q) (xs.map num) (ys.map num) := ⟨_, rfl⟩
    simp only [← hL] at KT
    rw [← hL] at hll ⊢
    have KT := Lib.hid KT
    have HLL := Lib.hid (And.intro hll hm)
    clear hn hn2 hm hm2 h h' hT he0 hQ hQn hl hl256 hx hy hxx htw hL hll
    go_enter Tryz.func19, Tryz.ntmps19
    go_wp2_with (first
      | (go_at_call 38; (with_reducible refine (KP.out _ (Below.refl _ _)).mono ?_); rintro e w1 ⟨rfl, hb1⟩; have HB1 := Lib.hid hb1; clear hb1)
      | (go_at_call 35; (with_reducible refine (KT.out _ HB1.out).mono ?_); rintro e w2 ⟨rfl, hr2, hb2⟩; have HR1 := Lib.hid hr2; have HB2 := Lib.hid (below2 HB1.out hb2); clear hr2 hb2))
    go_loop [25] (fun v => ∃ i : Nat, v = .int .i64 i ∧ i ≤ n2 ∧ ∀ t, t < i → d < (t : Int) → L.getD t 0 = 0) (fun v => n2 - (intOf v).toNat)
    case atStart => exact ⟨0, rfl, Nat.zero_le _, fun t ht => absurd ht (Nat.not_lt_zero _)⟩
    case round =>
      obtain ⟨i, rfl, hi, hok⟩ := hrel
      have HOK := Lib.hid hok
      clear hok
      by_cases hin : i < n2
      · have k1 : decide (i < n2) = true := decide_eq_true hin
        have c0 := (HR1.out i (by rw [HLL.out.1]; exact hin)).1
        obtain ⟨x, hx⟩ : ∃ x, x = L.getD i 0 := ⟨_, rfl⟩
        rw [← hx] at c0
        have HX := Lib.hid hx
        have HIN := Lib.hid hin
        have i1 : (i : Int) < (n2 : Int) := by omega
        have i2 : (0 : Int) ≤ (i : Int) := by omega
        by_cases hd : d < (i : Int)
        · have k2 : decide (d < (i : Int)) = true := decide_eq_true hd
          have HD := Lib.hid hd
          by_cases hz : x = 0
          · have e1 : (B x).toList.isEmpty = true := by rw [B_isEmpty, hz]; rfl
            have HZ := Lib.hid hz
            clear hi hx hd hz
            go_wp2_with fail
            go_round
            case rel => exact ⟨i + 1, stp64 HIN.out HLL.out.2, HIN.out, fun t ht htd => by
              by_cases e : t = i
              · subst e; rw [← HX.out]; exact HZ.out
              · exact HOK.out t (by omega) htd⟩
            case measure => exact mes64 HIN.out HLL.out.2
          · have e1 : (B x).toList.isEmpty = false := B_isEmpty_false hz
            have HF : Hid (fitsB L d = false) := Lib.hid (fitsB_no (i := i) (by rw [HLL.out.1]; exact HIN.out) HD.out (by rw [← HX.out]; exact hz))
            clear hi hx hd hz
            go_wp2_with fail
            go_ret2
            exact ⟨ret_bi HF.out.symm rfl, HB2.out⟩
        · have k2 : decide (d < (i : Int)) = false := decide_eq_false hd
          have HD := Lib.hid hd
          clear hi hx hd
          go_wp2_with fail
          go_round
          case rel => exact ⟨i + 1, stp64 HIN.out HLL.out.2, HIN.out, fun t ht htd => by
            by_cases e : t = i
            · subst e; exact absurd htd HD.out
            · exact HOK.out t (by omega) htd⟩
          case measure => exact mes64 HIN.out HLL.out.2
      · obtain rfl : i = n2 := by omega
        have k1 : decide (i < i) = false := decide_eq_false (Nat.lt_irrefl _)
        have HF : Hid (fitsB L d = true) := Lib.hid (fitsB_yes (fun t ht htd => HOK.out t (by rw [← HLL.out.1]; exact ht) htd))
        clear hi hin
        go_wp2_with fail
        go_ret2
        exact ⟨ret_bi HF.out.symm rfl, HB2.out⟩
  · have k0 : (e0 == 0) = false := by rw [beq_eq_false_iff_ne]; exact h0
    rw [if_neg h0] at hr
    subst hr
    clear hn hn2 hm hm2 h h' hT he0 h0
    go_enter Tryz.func19, Tryz.ntmps19
    go_wp2_with (first
      | (go_at_call 38; (with_reducible refine (KP.out _ (Below.refl _ _)).mono ?_); rintro e w1 ⟨rfl, hb1⟩; have HB1 := Lib.hid hb1; clear hb1))
    go_ret2
    exact ⟨rfl, HB1.out⟩

end Go.Proofs.YtapplggboepfaaaGreatDoor
