/- The reference's shamir (19): Through = thruL. -/
import Derived.Test.YtapplggboepfaaaGreatDoorSi
import Derived.Test.YtapplggboepfaaaGreatDoorSf
import Derived.Test.YtapplggboepfaaaGreatDoorRX
import Derived.Deep.DeepCutAuto
import Derived.Deep.CutBlock
import Derived.Deep.RegionHeld3
namespace Go.Proofs.YtapplggboepfaaaGreatDoor
open Go.RowKit
set_option maxRecDepth 100000
set_option linter.unusedVariables false
set_option linter.unusedSimpArgs false
set_option maxHeartbeats 4000000

/-- A list padded with zeros. -/
def padL (n : Nat) (L : List Nat) : List Nat := L ++ List.replicate (n - L.length) 0
theorem padL_length {n : Nat} {L : List Nat} (h : L.length ≤ n) : (padL n L).length = n := by
  unfold padL; rw [List.length_append, List.length_replicate]; omega
theorem padL_getD (n : Nat) (L : List Nat) (i : Nat) : (padL n L).getD i 0 = L.getD i 0 := by
  unfold padL
  by_cases h : i < L.length
  · rw [List.getD_eq_getElem?_getD, List.getD_eq_getElem?_getD, List.getElem?_append_left h]
  · rw [List.getD_eq_getElem?_getD, List.getD_eq_getElem?_getD, List.getElem?_append_right (by omega), List.getElem?_eq_none (l := L) (by omega), List.getElem?_replicate]
    split <;> rfl
theorem padL_full {n : Nat} {L : List Nat} (h : L.length = n) : padL n L = L := by
  unfold padL; rw [h, Nat.sub_self, List.replicate_zero, List.append_nil]
theorem padL_lt {n q : Nat} {L : List Nat} (h0 : 0 < q) (h : ∀ a ∈ L, a < q) : ∀ a ∈ padL n L, a < q := by
  intro a ha
  unfold padL at ha
  rcases List.mem_append.1 ha with h1 | h1
  · exact h a h1
  · rw [(List.mem_replicate.1 h1).2]; exact h0
theorem padL_one {n : Nat} (h : 0 < n) : (List.replicate n 0).set 0 1 = padL n [1] := by
  unfold padL
  obtain ⟨m, rfl⟩ : ∃ m, n = m + 1 := ⟨n - 1, by omega⟩
  rw [List.replicate_succ, List.set_cons_zero]
  rfl
/-- The next product of the reference, half done. -/
def nxtR (q x : Nat) (p : List Nat) (j : Nat) : List Nat := (nextL q x p j).take p.length
theorem nxtR_length (q x : Nat) (p : List Nat) (j : Nat) : (nxtR q x p j).length = p.length := by
  unfold nxtR; rw [List.length_take, nextL_length]; omega
theorem ngetD_take {L : List Nat} {n i : Nat} (h : i < n) : (L.take n).getD i 0 = L.getD i 0 := by
  rw [List.getD_eq_getElem?_getD, List.getD_eq_getElem?_getD, List.getElem?_take_of_lt h]
theorem nxtR_getD {q x : Nat} {p : List Nat} {j i : Nat} (h : i < p.length) : (nxtR q x p j).getD i 0 = (nextL q x p j).getD i 0 := ngetD_take h
theorem nxtR_zero (q x : Nat) (p : List Nat) : nxtR q x p 0 = List.replicate p.length 0 := by
  unfold nxtR; rw [nextL_zero, List.take_replicate]; congr 1; omega
theorem nxtR_at {q x : Nat} {p : List Nat} {j : Nat} (h : j + 1 < p.length) : (nxtR q x p j).getD (j + 1) 0 = 0 := by
  rw [nxtR_getD h, nextL_getD (by omega), if_neg (by omega), if_neg (by omega)]
theorem nxtR_step {q x : Nat} {p : List Nat} {j v : Nat} (hj : j < p.length) (hp : ∀ c ∈ p, c < q) (hv : v = ((nxtR q x p j).getD j 0 % q + (q - (p.getD j 0 * x % q) % q)) % q) :
    ((nxtR q x p j).set j v).set (j + 1) (p.getD j 0) = nxtR q x p (j + 1) := by
  have hs := nextL_step (x := x) hj hp
  have hc : p.getD j 0 < q := by rw [← List.getElem_eq_getD (h := hj)]; exact hp _ (List.getElem_mem hj)
  rw [Nat.zero_add, Nat.mod_eq_of_lt hc] at hs
  rw [nxtR_getD hj] at hv
  rw [← hv] at hs
  unfold nxtR
  rw [← List.take_set, ← List.take_set, List.set_comm _ _ (by omega), hs]
theorem nxtR_last {q x : Nat} {p : List Nat} {j v : Nat} (hj : j + 1 = p.length) (hp : ∀ c ∈ p, c < q) (hv : v = ((nxtR q x p j).getD j 0 % q + (q - (p.getD j 0 * x % q) % q)) % q) :
    (nxtR q x p j).set j v = nxtR q x p (j + 1) := by
  have hs := nxtR_step (x := x) (by omega : j < p.length) hp hv
  rw [List.set_eq_of_length_le (by rw [List.length_set, nxtR_length]; omega)] at hs
  exact hs
theorem nxtR_lt {q x : Nat} {p : List Nat} (hp : ∀ c ∈ p, c < q) (hq : 0 < q) (j i : Nat) : (nxtR q x p j).getD i 0 < q := by
  by_cases h : i < p.length
  · rw [nxtR_getD h]; exact nextL_lt hp hq j i
  · rw [ngetD_out (by rw [nxtR_length]; omega)]; exact hq
theorem nxtR_end {q x n : Nat} {L : List Nat} (hq : 0 < q) (hL : ∀ c ∈ L, c < q) (hn : L.length < n) : nxtR q x (padL n L) n = padL n (mulX q x L) := by
  have hpl : (padL n L).length = n := padL_length (by omega)
  have hml : (mulX q x L).length = L.length + 1 := mulX_length q x L
  refine list_ext_getD (by rw [nxtR_length, hpl, padL_length (by omega)]) (fun i hi => ?_)
  rw [nxtR_length, hpl] at hi
  have he := nextL_end (x := x) (padL_lt (n := n) hq hL) hq
  rw [hpl] at he
  rw [nxtR_getD (by omega), he, padL_getD, mulX_getD (by omega)]
  have e1 : (0 :: padL n L).getD i 0 = (0 :: L).getD i 0 := by
    cases i with
    | zero => rfl
    | succ k => rw [List.getD_cons_succ, List.getD_cons_succ, padL_getD]
  have e2 : (padL n L ++ [0]).getD i 0 = L.getD i 0 := by
    rw [List.getD_eq_getElem?_getD, List.getElem?_append_left (by omega), ← List.getD_eq_getElem?_getD, padL_getD]
  rw [e1, e2]
  by_cases h : i < L.length + 1
  · rw [mulX_getD h]
    have e3 : (L ++ [0]).getD i 0 = L.getD i 0 := by
      by_cases h2 : i < L.length
      · rw [List.getD_eq_getElem?_getD, List.getElem?_append_left h2, ← List.getD_eq_getElem?_getD]
      · rw [ngetD_out (L := L) (by omega), List.getD_eq_getElem?_getD, List.getElem?_append_right (by omega)]
        have : i - L.length = 0 := by omega
        rw [this]; rfl
    rw [e3]
  · rw [ngetD_out (L := mulX q x L) (by omega), ngetD_out (L := L) (by omega), ngetD_out (L := 0 :: L) (by simp; omega), Nat.zero_mul, Nat.zero_mod, Nat.sub_zero, Nat.zero_add, Nat.mod_self]
theorem mul_swap (c y v q : Nat) : c * y % q * v % q = c * (y * v % q) % q := by
  rw [Nat.mod_mul_mod, Nat.mul_mod_mod, Nat.mul_assoc]
theorem invM_lt {s q : Nat} (h : 0 < q) : invM s q < q := by
  unfold invM
  cases hf : (List.range q).find? (fun x => s * x % q == 1 % q) with
  | none => exact h
  | some y => exact List.mem_range.1 (List.mem_of_find?_eq_some hf)

theorem r19_div (q a b : Nat) (w : World) (ha : a < q) (hb : b < q) (hm : q < 18446744073709551616) (h2 : 2 ≤ q) :
    Calls Tryz.prog 61 #[.string (B q), .string (B a), .string (B b)] w fun e w' => e = .returned (.string (B (a * invM b q % q))) ∧ Below w.heap.size w w' := by
  have KI := Lib.hid (fun w => r03_Inverse b q w (by omega) hm h2)
  have KM := Lib.hid (fun w => r19_mul q a (invM b q) w ha (invM_lt (by omega)) hm)
  generalize a * invM b q % q = r at KM ⊢
  generalize invM b q = v at KI KM
  clear ha hb hm h2
  go_enter Tryz.func61, Tryz.ntmps61
  go_wp2_with (first
    | (go_at_call 83; (with_reducible refine (KI.out _).mono ?_); rintro e w1 ⟨⟨er, rfl⟩, hb1⟩; have HB1 := Lib.hid hb1; clear hb1)
    | (go_at_call 59; (with_reducible refine (KM.out _).mono ?_); rintro e w2 ⟨rfl, hb2⟩; have HB2 := Lib.hid (below2 HB1.out hb2); clear hb2))
  go_ret
  exact ⟨rfl, HB2.out⟩
theorem RowN.zero_at {W : World} {g n j : Nat} (h : RowN W g (List.replicate n 0)) (hj : j < n) : W.cell? ⟨g, j, none⟩ = some (.string (B 0)) ∧ W.frozen? ⟨g, j, none⟩ = false := by
  have h1 := h j (by rw [List.length_replicate]; exact hj)
  have e : (List.replicate n 0).getD j 0 = 0 := by rw [List.getD_eq_getElem?_getD, List.getElem?_replicate]; split <;> rfl
  rw [e] at h1
  exact h1
theorem polyP_room {q : Nat} {xs : List Nat} {i k n : Nat} (hi : i < n) (hk : k < n) (hne : k ≠ i) : (polyP q xs i k).1.length < n := by
  rw [polyP_length]; split <;> omega
theorem polyP_room2 {q : Nat} {xs : List Nat} {i k n : Nat} (hi : i < n) (hk : k ≤ n) : (polyP q xs i k).1.length ≤ n := by
  rw [polyP_length]; split <;> omega
set_option maxHeartbeats 40000000 in
theorem r19_Through (Q : Nat) (xs ys : List Nat) (A A2 : Option Addr) (n c c2 : Nat) (w : World) (hQ : Q < 18446744073709551616) (h2 : 2 ≤ Q) (hxs : ∀ a ∈ xs, a < Q) (hys : ∀ a ∈ ys, a < Q) (hn : xs.length = n) (hy : ys.length = n) (hm : n ≤ 900)
    (h : SLs w w.heap.size A (xs.map B)) (h' : SLs w w.heap.size A2 (ys.map B)) :
    Calls Tryz.prog 40 #[.string (B Q), .slice A n c, .slice A2 n c2] w fun e w' => e = .returned (.slice (some ⟨w.heap.size, 0, none⟩) n n) ∧ RowN w' w.heap.size (thruL Q xs ys) ∧ Below w.heap.size w w' := by
  have hmk := make_strs n (by omega)
  have HMK := Lib.hid hmk
  have HQ := Lib.hid (And.intro hQ (And.intro h2 (show 0 < Q by omega)))
  have HX := Lib.hid (And.intro hxs hys)
  have HN := Lib.hid (And.intro hn (And.intro hy hm))
  have HSX := Lib.hid h
  have HSY := Lib.hid h'
  have hst : RowN (w.alloc (.cells (List.replicate n (Value.string ByteArray.empty)).toArray 25)) w.heap.size (outL Q xs ys 0) := by
    have := RowN.made w n 25
    have e : outL Q xs ys 0 = List.replicate n 0 := by rw [← hn]; rfl
    rw [e]
    exact this
  have HST := Lib.hid (And.intro hst ((Below.refl w.heap.size w).alloc (Nat.le_refl _) (.cells (List.replicate n (Value.string ByteArray.empty)).toArray 25)))
  clear hst h h' hQ h2 hxs hys hn hy hm
  go_enter Tryz.func40, Tryz.ntmps40
  go_wp2_with fail
  clear hmk
  obtain ⟨g0, hg0⟩ : ∃ g0, w.heap.size = g0 := ⟨_, rfl⟩
  have HG0 := Lib.hid hg0
  rw [hg0] at HST HSX HSY ⊢
  clear hg0
  go_loopw [9] (fun v wr => ∃ i : Nat, v = .int .i64 i ∧ i ≤ n ∧ RowN wr g0 (outL Q xs ys i) ∧ Below g0 w wr) (fun v _ => n - (intOf v).toNat)
  case atStart => exact ⟨0, rfl, Nat.zero_le _, HST.out.1, HST.out.2⟩
  case round =>
    clear HST
    rename World => w0
    obtain ⟨i, rfl, hi, hrow, hbel⟩ := hrel
    by_cases hlt : i < n
    · have hmk := HMK.out
      obtain ⟨OL, hOL⟩ : ∃ OL, OL = outL Q xs ys i := ⟨_, rfl⟩
      rw [← hOL] at hrow
      have hlO : OL.length = n := by rw [hOL, outL_length Q xs ys i (by rw [HN.out.1]; omega), HN.out.1]
      have hg0lt : g0 < w0.heap.size := cell_in (a := ⟨g0, 0, none⟩) (hrow 0 (by omega)).1
      have KO := Lib.hid (fun w => r01_Of' 1 1 w rfl (by decide))
      have KO1 := Lib.hid (r01_Of' 1 1 (w0.alloc (.cells (Array.replicate n (Value.string ByteArray.empty)) 25)) rfl (by decide))
      have KMo := fun w => r03_Mod 1 Q w (k_lim (by decide)) (u64_lt_lim HQ.out.1) HQ.out.2.2
      rw [Nat.mod_eq_of_lt (show 1 < Q by have := HQ.out.2.1; omega)] at KMo
      have KMo := Lib.hid KMo
      have HLT := Lib.hid hlt
      have HOL := Lib.hid (And.intro hOL hlO)
      have HG0L := Lib.hid hg0lt
      have HROW := Lib.hid hrow
      have HBEL := Lib.hid hbel
      have j1 : decide (i < n) = true := decide_eq_true hlt
      have i0 : (0 : Int) < (n : Int) := by omega
      clear hi hlt hOL hlO hg0lt hrow hbel
      have hnew : RowN (w0.alloc (.cells (Array.replicate n (Value.string ByteArray.empty)) 25)) w0.heap.size (List.replicate n 0) := by have := RowN.made w0 n 25; rwa [List.toArray_replicate] at this
      have HNEW := Lib.hid hnew
      have HN0 := Lib.hid (show 0 < n by have := HLT.out; omega)
      clear hnew
      go_upto_region 9 with (first
        | (go_at_call 24; (with_reducible refine KO1.out.mono ?_); rintro e w1 ⟨rfl, hb1⟩; have HR1 := Lib.hid (HNEW.out.next hb1); have HB1 := Lib.hid (below2 ((Below.refl _ _).alloc (Nat.le_refl _) _) hb1); clear hb1)
        | (go_at_call 57; (with_reducible refine (KMo.out _).mono ?_); rintro e w2 ⟨rfl, hb2⟩; have HR2 := Lib.hid (HR1.out.next hb2); have HB2 := Lib.hid (below2 HB1.out hb2); obtain ⟨hn1, hn2⟩ := HR2.out.zero_at HN0.out; clear hb2)
        | (go_at_call 24; (with_reducible refine (KO.out _).mono ?_); rintro e w3 ⟨rfl, hb3⟩; have HB3 := Lib.hid hb3; clear hb3))
      have hR3 : RowN w3 w0.heap.size (padL n [1]) := by
        rw [← padL_one HN0.out]
        exact (HR2.out.set (k := 0) (v := 1) (by rw [List.length_replicate]; exact HN0.out)).next HB3.out
      have hO3 : RowN w3 g0 OL := ((HROW.out.next HB2.out).far (p := ⟨w0.heap.size, 0, none⟩) (Nat.ne_of_gt HG0L.out) _).next HB3.out
      have hB3 : Below g0 w w3 := by
        have h1 : Below g0 w0 w2 := HB2.out.mono (Nat.le_of_lt HG0L.out)
        have h2 := h1.setCell (p := ⟨w0.heap.size, 0, none⟩) (Nat.le_of_lt HG0L.out) (.string (B 1))
        exact (HBEL.out.trans h2).trans (HB3.out.mono (Nat.le_trans (Nat.le_of_lt HG0L.out) h2.size))
      have H3 := Lib.hid (And.intro hR3 (And.intro hO3 hB3))
      have HW0 := Lib.hid (And.intro HB2.out.size (show g0 < w0.heap.size from HG0L.out))
      clear hR3 hO3 hB3 hn1 hn2 hmk HB1 HB2 HB3 HR1 HR2 HNEW HROW HBEL KMo i0
      go_wp2_with fail
      obtain ⟨b0, hb0⟩ : ∃ b0, w0.heap.size = b0 := ⟨_, rfl⟩
      rw [hb0] at H3 HW0 ⊢
      have HB0 := Lib.hid (show g0 < b0 by rw [← hb0]; exact HG0L.out)
      clear hb0 HW0
      go_loopw [12, 10, 11] (fun vk vb vs wk => ∃ k g : Nat, vk = .int .i64 k ∧ k ≤ n ∧ b0 ≤ g ∧ vb = .slice (some ⟨g, 0, none⟩) n n ∧ RowN wk g (padL n (polyP Q xs i k).1) ∧ vs = .string (B (polyP Q xs i k).2) ∧ RowN wk g0 OL ∧ Below g0 w wk) (fun v _ _ _ => n - (intOf v).toNat)
      case atStart => exact ⟨0, b0, rfl, Nat.zero_le _, Nat.le_refl _, rfl, H3.out.1, rfl, H3.out.2.1, H3.out.2.2⟩
      case round =>
        clear H3
        rename World => wk
        obtain ⟨k, g, rfl, hk, hg, rfl, hrb, rfl, hro, hbk⟩ := hrel
        have HRB := Lib.hid hrb
        have HRO := Lib.hid hro
        have HBK := Lib.hid hbk
        have hpq := polyP_lt HQ.out.2.1 xs i k
        by_cases hkn : k < n
        · have k1 : decide (k < n) = true := decide_eq_true hkn
          by_cases hki : k = i
          · have k3 : ((k : Int) == (i : Int)) = true := by rw [hki]; simp
            have HKI := Lib.hid hki
            have HKN := Lib.hid (And.intro hkn hg)
            clear hki hkn hk hg hrb hro hbk hpq
            go_wp2_with fail
            go_roundw
            case rel => exact ⟨k + 1, g, stp64 HKN.out.1 HN.out.2.2, HKN.out.1, HKN.out.2, rfl, by have e := HKI.out; subst e; rw [polyP_succ_eq]; exact HRB.out, by have e := HKI.out; subst e; rw [polyP_succ_eq], HRO.out, HBK.out⟩
            case measure => exact mes64 HKN.out.1 HN.out.2.2
          · have k3 : ((k : Int) == (i : Int)) = false := by simp; omega
            have hmk := HMK.out
            obtain ⟨x, hx⟩ : ∃ x, x = xs.getD k 0 := ⟨_, rfl⟩
            obtain ⟨p, hp⟩ : ∃ p, p = padL n (polyP Q xs i k).1 := ⟨_, rfl⟩
            have hpl : p.length = n := by rw [hp]; exact padL_length (polyP_room2 HLT.out hk)
            have hpQ : ∀ a ∈ p, a < Q := by rw [hp]; exact padL_lt HQ.out.2.2 hpq.1
            have hxQ : x < Q := by rw [hx]; exact nget_lt HX.out.1 (by rw [HN.out.1]; exact hkn)
            obtain ⟨ad, rfl, hcx⟩ := sls_val (HSX.out.below hbk) (k := k) (by rw [HN.out.1]; exact hkn)
            obtain ⟨P0, hP0⟩ : ∃ P0, P0 = (polyP Q xs i k).1 := ⟨_, rfl⟩
            obtain ⟨s0, hs0⟩ : ∃ s0, s0 = (polyP Q xs i k).2 := ⟨_, rfl⟩
            rw [← hP0, ← hs0] at hpq
            rw [← hP0] at hp
            have hroom : P0.length < n := by rw [hP0]; exact polyP_room HLT.out hkn hki
            have hsucc := polyP_succ_ne (q := Q) (xs := xs) hki
            rw [← hP0, ← hs0, ← hx] at hsucc
            rw [← hs0]
            have hglt : g < wk.heap.size := cell_in (a := ⟨g, 0, none⟩) (hrb 0 (by rw [padL_length (polyP_room2 HLT.out hk)]; omega)).1
            have hxi : xs.getD i 0 < Q := nget_lt HX.out.1 (by rw [HN.out.1]; exact HLT.out)
            obtain ⟨xi, hxieq⟩ : ∃ xi, xi = xs.getD i 0 := ⟨_, rfl⟩
            rw [← hxieq] at hxi hsucc
            have HXI := Lib.hid (And.intro hxieq hxi)
            have HPP := Lib.hid (And.intro hp (And.intro hpl (And.intro hpQ (And.intro hroom hpq))))
            have HXX := Lib.hid (And.intro hx hxQ)
            have HKK := Lib.hid (And.intro hkn (And.intro hki (And.intro hg hglt)))
            have HSU := Lib.hid hsucc
            have HRB2 : Hid (RowN wk g p) := Lib.hid (by rw [hp, hP0]; exact hrb)
            have hnew : RowN (wk.alloc (.cells (Array.replicate n (Value.string ByteArray.empty)) 25)) wk.heap.size (nxtR Q x p 0) := by
              have := RowN.made wk n 25; rw [List.toArray_replicate] at this; rw [nxtR_zero, hpl]; exact this
            have hbn : Below g0 w (wk.alloc (.cells (Array.replicate n (Value.string ByteArray.empty)) 25)) := hbk.alloc (by have := HB0.out; omega) _
            have hbw : Below wk.heap.size wk (wk.alloc (.cells (Array.replicate n (Value.string ByteArray.empty)) 25)) := (Below.refl _ _).alloc (Nat.le_refl _) _
            have H4 := Lib.hid (And.intro hnew (And.intro (HRB2.out.next hbw) (And.intro (hro.next hbw) hbn)))
            clear hnew hbn hbw hxi hxieq hp hpl hpQ hroom hpq hx hxQ hkn hki hg hglt hsucc hrb hro hbk hcx HRB HRO HBK hP0 hs0 hk
            go_wp2_with fail
            obtain ⟨g1, hg1⟩ : ∃ g1, wk.heap.size = g1 := ⟨_, rfl⟩
            have HG1 := Lib.hid (show g < g1 ∧ b0 ≤ g ∧ g0 < b0 by rw [← hg1]; exact ⟨HKK.out.2.2.2, HKK.out.2.2.1, HB0.out⟩)
            rw [hg1] at H4 ⊢
            clear hg1 hmk
            go_loopw [14] (fun v wj => ∃ j : Nat, v = .int .i64 j ∧ j ≤ n ∧ RowN wj g1 (nxtR Q x p j) ∧ RowN wj g p ∧ RowN wj g0 OL ∧ Below g0 w wj) (fun v _ => n - (intOf v).toNat)
            case atStart => exact ⟨0, rfl, Nat.zero_le _, H4.out⟩
            case round =>
              clear H4
              rename World => wj
              obtain ⟨j, rfl, hj, hrn, hrp, hro, hbj⟩ := hrel
              have HRN := Lib.hid hrn
              have HRP := Lib.hid hrp
              have HRO := Lib.hid hro
              have HBJ := Lib.hid hbj
              by_cases hjn : j < n
              · have j1 : decide (j < n) = true := decide_eq_true hjn
                have hpl := HPP.out.2.1
                have hnl : (nxtR Q x p j).length = n := by rw [nxtR_length, hpl]
                obtain ⟨d, hd⟩ : ∃ d, d = p.getD j 0 := ⟨_, rfl⟩
                obtain ⟨u, hu⟩ : ∃ u, u = (nxtR Q x p j).getD j 0 := ⟨_, rfl⟩
                have hdQ : d < Q := by rw [hd]; exact nget_lt HPP.out.2.2.1 (by rw [hpl]; exact hjn)
                have huQ : u < Q := by rw [hu]; exact nxtR_lt HPP.out.2.2.1 HQ.out.2.2 j j
                have c0 := (hrp j (by rw [hpl]; exact hjn)).1
                rw [← hd] at c0
                obtain ⟨r0c, r0f⟩ := hrn j (by rw [hnl]; exact hjn)
                rw [← hu] at r0c
                obtain ⟨ad', e', hcx⟩ := sls_val (HSX.out.below hbj) (k := k) (by rw [HN.out.1]; exact HKK.out.1)
                cases e'
                rw [← HXX.out.1] at hcx
                obtain ⟨y2, hy2⟩ : ∃ y2, y2 = d * x % Q := ⟨_, rfl⟩
                have hy2Q : y2 < Q := by rw [hy2]; exact Nat.mod_lt _ HQ.out.2.2
                obtain ⟨y3, hy3⟩ : ∃ y3, y3 = (u % Q + (Q - y2 % Q)) % Q := ⟨_, rfl⟩
                have KM := Lib.hid (fun w => r19_mul Q d x w hdQ HXX.out.2 HQ.out.1)
                have KS := Lib.hid (fun w => r19_sub Q u y2 w huQ hy2Q HQ.out.1)
                have KA := Lib.hid (fun w => r19_add Q 0 d w HQ.out.2.2 hdQ HQ.out.1)
                rw [← hy2] at KM
                rw [← hy3] at KS
                rw [Nat.zero_add, Nat.mod_eq_of_lt hdQ] at KA
                have hst : y3 = ((nxtR Q x p j).getD j 0 % Q + (Q - (p.getD j 0 * x % Q) % Q)) % Q := by rw [hy3, hy2, hu, hd]
                have HST := Lib.hid (And.intro hst (And.intro hd hjn))
                have HSET : Hid (∀ W : World, RowN W g1 (nxtR Q x p j) → RowN (W.setCell ⟨g1, j, none⟩ (.string (B y3))) g1 ((nxtR Q x p j).set j y3)) := Lib.hid (fun W h => h.set (by rw [hnl]; exact hjn))
                have i1 : (j : Int) < (n : Int) := by omega
                have i2 : (0 : Int) ≤ (j : Int) := by omega
                have i3 : (k : Int) < (n : Int) := by have := HKK.out.1; omega
                have i4 : (0 : Int) ≤ (k : Int) := by omega
                clear hj hjn hpl hnl hd hu hdQ huQ hy2 hy2Q hy3 hst hrn hrp hro hbj
                go_upto_region 17 with fail
                go_cut [13, 14] (fun a b wx => a = .slice (some ⟨g1, 0, none⟩) n n ∧ b = .int .i64 j ∧ RowN wx g1 ((nxtR Q x p j).set j y3) ∧ RowN wx g p ∧ RowN wx g0 OL ∧ Below g0 w wx)
                case first =>
                  go_region_with (first
                    | (go_at_call 59; (with_reducible refine (KM.out _).mono ?_); rintro e w5 ⟨rfl, hb5⟩
                       have HB5 : Hid (Below wj.heap.size wj w5) := by first | exact Lib.hid hb5 | exact Lib.hid (((Below.refl _ wj).drew).trans hb5)
                       have r0f := (HB5.out.frozen (p := ⟨g1, j, none⟩) (cell_in r0c)).trans r0f
                       have r0c := (HB5.out.cell (cell_in r0c)).trans r0c
                       clear hb5)
                    | (go_at_call 58; (with_reducible refine (KS.out _).mono ?_); rintro e w6 ⟨rfl, hb6⟩
                       have HB6 : Hid (Below wj.heap.size wj w6) := by first | exact Lib.hid (below2 HB5.out hb6) | exact Lib.hid (below2 HB5.out (((Below.refl _ w5).drew).trans hb6))
                       have r0f := (hb6.frozen (p := ⟨g1, j, none⟩) (cell_in (a := ⟨g1, j, none⟩) r0c)).trans r0f
                       have r0c := (hb6.cell (p := ⟨g1, j, none⟩) (cell_in (a := ⟨g1, j, none⟩) r0c)).trans r0c
                       clear hb6))
                  all_goals
                    go_wp2_with fail
                    go_meet
                    have hb := HB6.out
                    have hg := HG1.out
                    exact ⟨rfl, rfl, HSET.out _ (HRN.out.next hb), (HRP.out.next hb).far (p := ⟨g1, j, none⟩) (Nat.ne_of_gt hg.1) _, (HRO.out.next hb).far (p := ⟨g1, j, none⟩) (by show g1 ≠ g0; omega) _,
                      (HBJ.out.trans (hb.mono (by have := HBJ.out.size; have := HG0.out; omega))).setCell (p := ⟨g1, j, none⟩) (by show g0 ≤ g1; omega) _⟩
                case rest =>
                  obtain ⟨rfl, rfl, hrn, hrp, hro, hbj⟩ := hcut
                  rename World => wq
                  have HRN2 := Lib.hid hrn
                  have HRP2 := Lib.hid hrp
                  have HRO2 := Lib.hid hro
                  have HBJ2 := Lib.hid hbj
                  clear hcx r0c r0f c0
                  have hpl := HPP.out.2.1
                  have hd := HST.out.2.1
                  have hjn := HST.out.2.2
                  have c0 := (hrp j (by rw [hpl]; exact hjn)).1
                  rw [← hd] at c0
                  obtain ⟨J1, hJ1⟩ : ∃ J1, J1 = j + 1 := ⟨_, rfl⟩
                  have wj1 : wrap64 ((j : Int) + 1) = (J1 : Int) := by rw [hJ1]; exact IntWalk.wrap64_in _ (by have := HN.out.2.2; omega)
                  have wj2 : IntKind.i64.wrap ((j : Int) + 1) = (J1 : Int) := by clear wj1; rw [IntKind.wrap_i64]; have := HN.out.2.2; omega
                  have HJ1 := Lib.hid hJ1
                  by_cases hjj : J1 < n
                  · have j2 : decide ((J1 : Int) < (n : Int)) = true := decide_eq_true (by omega)
                    have i5 : (J1 : Int) < (n : Int) := by omega
                    have i6 : (0 : Int) ≤ (J1 : Int) := by omega
                    have hll : ((nxtR Q x p j).set j y3).length = n := by rw [List.length_set, nxtR_length, hpl]
                    obtain ⟨r1c, r1f⟩ := hrn J1 (by rw [hll]; exact hjj)
                    have hz : ((nxtR Q x p j).set j y3).getD J1 0 = 0 := by rw [hJ1, getD_set_other (by omega)]; exact nxtR_at (by rw [hpl]; omega)
                    rw [hz] at r1c
                    have HSET2 : Hid (∀ W : World, RowN W g1 ((nxtR Q x p j).set j y3) → RowN (W.setCell ⟨g1, J1, none⟩ (.string (B d))) g1 (nxtR Q x p (j + 1))) := Lib.hid (fun W h => by
                      rw [← nxtR_step (by rw [hpl]; exact hjn) HPP.out.2.2.1 HST.out.1, ← HST.out.2.1, ← hJ1]
                      exact h.set (by rw [hll]; exact hjj))
                    clear hJ1 hjj hpl hd hjn hll hz hrn hrp hro hbj
                    go_upto_region 19 with fail
                    go_region_with (first
                      | (go_at_call 60; (with_reducible refine (KA.out _).mono ?_); rintro e w7 ⟨rfl, hb7⟩
                         have HB7 : Hid (Below wq.heap.size wq w7) := by first | exact Lib.hid hb7 | exact Lib.hid (((Below.refl _ wq).drew).trans hb7)
                         have r1f := (HB7.out.frozen (p := ⟨g1, J1, none⟩) (cell_in r1c)).trans r1f
                         have r1c := (HB7.out.cell (cell_in r1c)).trans r1c
                         clear hb7))
                    all_goals
                      go_wp2_with fail
                      go_roundw
                      case rel =>
                        have hb := HB7.out
                        have hg := HG1.out
                        have hs := HBJ2.out.size
                        have h0 := HG0.out
                        exact ⟨j + 1, by rw [HJ1.out], HST.out.2.2, HSET2.out _ (HRN2.out.next hb), (HRP2.out.next hb).far (p := ⟨g1, J1, none⟩) (Nat.ne_of_gt hg.1) _, (HRO2.out.next hb).far (p := ⟨g1, J1, none⟩) (by show g1 ≠ g0; omega) _,
                          (HBJ2.out.trans (hb.mono (by omega))).setCell (p := ⟨g1, J1, none⟩) (by show g0 ≤ g1; omega) _⟩
                      case measure => (rw [HJ1.out]; have := HST.out.2.2; show n - (((j + 1 : Nat) : Int)).toNat < n - ((j : Int)).toNat; omega)
                  · have j2 : decide ((J1 : Int) < (n : Int)) = false := decide_eq_false (by omega)
                    have j2' : decide (J1 < n) = false := decide_eq_false hjj
                    have HEND := Lib.hid (show j + 1 = n by omega)
                    have hrn2 : RowN wq g1 (nxtR Q x p (j + 1)) := by
                      rw [← nxtR_last (by rw [hpl]; omega) HPP.out.2.2.1 HST.out.1]; exact hrn
                    have HRN3 := Lib.hid hrn2
                    clear hrn2 hJ1 hjj hpl hd hjn hrn hrp hro hbj c0
                    go_wp2_with fail
                    have hm : n - (((j + 1 : Nat) : Int)).toNat < n - ((j : Int)).toNat := by have := HST.out.2.2; omega
                    have hv : Value.int .i64 (J1 : Int) = .int .i64 ((j + 1 : Nat) : Int) := by rw [HJ1.out]
                    have hr := (⟨j + 1, hv, HST.out.2.2, HRN3.out, HRP2.out, HRO2.out, HBJ2.out⟩ : ∃ j' : Nat, Value.int .i64 (J1 : Int) = .int .i64 j' ∧ j' ≤ n ∧ RowN wq g1 (nxtR Q x p j') ∧ RowN wq g p ∧ RowN wq g0 OL ∧ Below g0 w wq)
                    rw [← HJ1.out] at hm
                    first | exact ⟨hr, hm⟩ | (go_roundw; (first | (case roundEnd => exact ⟨hr, hm⟩) | ((case rel => exact hr); (case measure => exact hm))))
              · obtain rfl : j = n := by omega
                have j1 : decide (j < j) = false := decide_eq_false (Nat.lt_irrefl _)
                obtain ⟨ad', e', hcx⟩ := sls_val (HSX.out.below hbj) (k := k) (by rw [HN.out.1]; exact HKK.out.1)
                cases e'
                rw [← HXX.out.1] at hcx
                obtain ⟨ad', e', hci⟩ := sls_val (HSX.out.below hbj) (k := i) (by rw [HN.out.1]; exact HLT.out)
                cases e'
                rw [← HXI.out.1] at hci
                obtain ⟨y4, hy4⟩ : ∃ y4, y4 = (xi % Q + (Q - x % Q)) % Q := ⟨_, rfl⟩
                have hy4Q : y4 < Q := by rw [hy4]; exact Nat.mod_lt _ HQ.out.2.2
                have KS := Lib.hid (fun w => r19_sub Q xi x w HXI.out.2 HXX.out.2 HQ.out.1)
                have KM := Lib.hid (fun w => r19_mul Q s0 y4 w HPP.out.2.2.2.2.2 hy4Q HQ.out.1)
                rw [← hy4] at KS
                have hrow : RowN wj g1 (padL j (polyP Q xs i (k + 1)).1) := by
                  rw [HSU.out, ← nxtR_end HQ.out.2.2 HPP.out.2.2.2.2.1 HPP.out.2.2.2.1, ← HPP.out.1]; exact hrn
                have HR1 := Lib.hid hrow
                have HS1 : Hid ((polyP Q xs i (k + 1)).2 = s0 * y4 % Q) := Lib.hid (by rw [HSU.out, hy4])
                obtain ⟨y5, hy5⟩ : ∃ y5, y5 = s0 * y4 % Q := ⟨_, rfl⟩
                rw [← hy5] at KM HS1
                have i1 : (i : Int) < (j : Int) := by have := HLT.out; omega
                have i2 : (0 : Int) ≤ (i : Int) := by omega
                have i3 : (k : Int) < (j : Int) := by have := HKK.out.1; omega
                have i4 : (0 : Int) ≤ (k : Int) := by omega
                clear hj hjn hrn hrp hro hbj hy4 hy4Q hrow hy5 HSU HRP HRN
                go_upto_region 21 with fail
                go_region_held3 (fun w' => w'.cell? (ad.add i) = some (.string (B xi)) ∧ w'.cell? (ad.add k) = some (.string (B x))) (first | go_keep) (first
                  | (go_at_call 58; (with_reducible refine (KS.out _).mono ?_); rintro e w5 ⟨rfl, hb5⟩
                     have HB5 : Hid (Below wj.heap.size wj w5) := by first | exact Lib.hid hb5 | exact Lib.hid (((Below.refl _ wj).drew).trans hb5)
                     have hcx := (HB5.out.cell (p := ad.add k) (cell_in hcx)).trans hcx
                     have hci := (HB5.out.cell (p := ad.add i) (cell_in hci)).trans hci
                     clear hb5)
                  | (go_at_call 59; (with_reducible refine (KM.out _).mono ?_); rintro e w6 ⟨rfl, hb6⟩
                     have HB6 : Hid (Below wj.heap.size wj w6) := by first | exact Lib.hid (below2 HB5.out hb6) | exact Lib.hid (below2 HB5.out (((Below.refl _ w5).drew).trans hb6))
                     have hcx := (hb6.cell (p := ad.add k) (cell_in (a := ad.add k) hcx)).trans hcx
                     have hci := (hb6.cell (p := ad.add i) (cell_in (a := ad.add i) hci)).trans hci
                     clear hb6))
                all_goals
                  go_wp2_with fail
                  go_roundw
                  case rel =>
                    have hb := HB6.out
                    have hg := HG1.out
                    have hs := HBJ.out.size
                    have h0 := HG0.out
                    first
                      | exact ⟨k + 1, g1, stp64 HKK.out.1 HN.out.2.2, HKK.out.1, by omega, rfl, HR1.out.next hb, by rw [HS1.out], HRO.out.next hb, HBJ.out.trans (hb.mono (by omega))⟩
                      | exact ⟨k + 1, g1, stp64 HKK.out.1 HN.out.2.2, HKK.out.1, by omega, rfl, (HR1.out.next hb).drew, by rw [HS1.out], (HRO.out.next hb).drew, (HBJ.out.trans (hb.mono (by omega))).drew⟩
                  case measure => exact mes64 HKK.out.1 HN.out.2.2
        · obtain rfl : k = n := by omega
          have k1 : decide (k < k) = false := decide_eq_false (Nat.lt_irrefl _)
          have hxl := HN.out.1
          obtain ⟨sc, hsc⟩ : ∃ sc, sc = (polyP Q xs i k).2 := ⟨_, rfl⟩
          obtain ⟨p, hp⟩ : ∃ p, p = (polyP Q xs i k).1 := ⟨_, rfl⟩
          rw [← hsc, ← hp] at hpq
          rw [← hp] at hrb
          rw [← hsc]
          have hpk : p.length = k := by rw [hp, ← hxl]; exact polyP_full Q xs i (by rw [hxl]; exact HLT.out)
          rw [padL_full hpk] at hrb
          obtain ⟨yv, hyv⟩ : ∃ yv, yv = ys.getD i 0 := ⟨_, rfl⟩
          have hyvQ : yv < Q := by rw [hyv]; exact nget_lt HX.out.2 (by rw [HN.out.2.1]; exact HLT.out)
          obtain ⟨iv, hiv⟩ : ∃ iv, iv = invM sc Q := ⟨_, rfl⟩
          obtain ⟨f, hf⟩ : ∃ f, f = yv * iv % Q := ⟨_, rfl⟩
          have hff : f = ys.getD i 0 * invM (polyP Q xs i xs.length).2 Q % Q := by rw [hf, hyv, hiv, hsc, hxl]
          obtain ⟨NL, hNL⟩ : ∃ NL, NL = outL Q xs ys (i + 1) := ⟨_, rfl⟩
          have hlN : NL.length = k := by rw [hNL, outL_length Q xs ys (i + 1) (by rw [HN.out.1]; exact HLT.out), HN.out.1]
          have hlO2 := outL_lt HQ.out.2.2 xs ys i
          rw [← HOL.out.1] at hlO2
          have hstep : ∀ j, j < k → NL.getD j 0 = (OL.getD j 0 + p.getD j 0 * f % Q) % Q := by
            intro j hj
            rw [hNL, HOL.out.1, outL_next (by rw [HN.out.1]; exact HLT.out) (by rw [HN.out.1]; exact hj) hff, hp, hxl]
          have hgg : g0 < g := by have := HB0.out; omega
          have HP := Lib.hid (And.intro hpk hpq)
          have HY := Lib.hid (And.intro hyv hyvQ)
          have HF := Lib.hid (And.intro hf hiv)
          have HNL := Lib.hid (And.intro hNL (And.intro hlN hlO2))
          have HSTEP := Lib.hid hstep
          have HGG := Lib.hid hgg
          have HRB2 : Hid (RowN wk g p) := Lib.hid hrb
          clear hk hkn hg hrb hro hbk hpq hxl hsc hp hpk hyv hyvQ hiv hf hff hNL hlN hlO2 hstep hgg HRB
          go_wp2_with fail
          go_loopw [15] (fun v wj => ∃ j : Nat, v = .int .i64 j ∧ j ≤ k ∧ RowN wj g p ∧ RowN wj g0 (NL.take j ++ OL.drop j) ∧ Below g0 w wj) (fun v _ => k - (intOf v).toNat)
          case atStart => exact ⟨0, rfl, Nat.zero_le _, HRB2.out, by simpa using HRO.out, HBK.out⟩
          case round =>
            clear HRB2 HRO HBK
            rename World => wj
            obtain ⟨j, rfl, hj, hrp, hro, hbj⟩ := hrel
            have HRP := Lib.hid hrp
            have HRO := Lib.hid hro
            have HBJ := Lib.hid hbj
            by_cases hjn : j < k
            · have j1 : decide (j < k) = true := decide_eq_true hjn
              obtain ⟨d, hd⟩ : ∃ d, d = p.getD j 0 := ⟨_, rfl⟩
              have hdQ : d < Q := by rw [hd]; exact nget_lt HP.out.2.1 (by rw [HP.out.1]; exact hjn)
              have c0 := (hrp j (by rw [HP.out.1]; exact hjn)).1
              rw [← hd] at c0
              have hll : (NL.take j ++ OL.drop j).length = k := by rw [List.length_append, List.length_take, List.length_drop, HNL.out.2.1, HOL.out.2]; omega
              have hoj : (NL.take j ++ OL.drop j).getD j 0 = OL.getD j 0 := by
                have htl : (NL.take j).length = j := by rw [List.length_take, HNL.out.2.1]; omega
                rw [List.getD_eq_getElem?_getD, List.getD_eq_getElem?_getD, List.getElem?_append_right (by omega), htl, Nat.sub_self, List.getElem?_drop, Nat.add_zero]
              obtain ⟨r0c, r0f⟩ := hro j (by rw [hll]; exact hjn)
              rw [hoj] at r0c
              obtain ⟨u, hu⟩ : ∃ u, u = OL.getD j 0 := ⟨_, rfl⟩
              have huQ : u < Q := by rw [hu]; exact nget_lt HNL.out.2.2 (by rw [HOL.out.2]; exact hjn)
              rw [← hu] at r0c
              obtain ⟨ad', e', hcy⟩ := sls_val (HSY.out.below hbj) (k := i) (by rw [HN.out.2.1]; exact HLT.out)
              subst e'
              rw [← HY.out.1] at hcy
              have KM := Lib.hid (fun w => r19_mul Q d yv w hdQ HY.out.2 HQ.out.1)
              obtain ⟨m1, hm1⟩ : ∃ m1, m1 = d * yv % Q := ⟨_, rfl⟩
              have hm1Q : m1 < Q := by rw [hm1]; exact Nat.mod_lt _ HQ.out.2.2
              rw [← hm1] at KM
              have KD := Lib.hid (fun w => r19_div Q m1 sc w hm1Q HP.out.2.2 HQ.out.1 HQ.out.2.1)
              obtain ⟨m2, hm2⟩ : ∃ m2, m2 = m1 * invM sc Q % Q := ⟨_, rfl⟩
              have hm2Q : m2 < Q := by rw [hm2]; exact Nat.mod_lt _ HQ.out.2.2
              rw [← hm2] at KD
              have KA := Lib.hid (fun w => r19_add Q u m2 w huQ hm2Q HQ.out.1)
              obtain ⟨z, hz⟩ : ∃ z, z = (u + m2) % Q := ⟨_, rfl⟩
              rw [← hz] at KA
              have hzN : z = NL.getD j 0 := by
                rw [HSTEP.out j hjn, hz, hm2, hm1, ← HF.out.2, mul_swap, ← HF.out.1, hu, hd]
              have HSET : Hid (∀ W : World, RowN W g0 (NL.take j ++ OL.drop j) → RowN (W.setCell ⟨g0, j, none⟩ (.string (B z))) g0 (NL.take (j + 1) ++ OL.drop (j + 1))) := Lib.hid (fun W h => by
                rw [← take_set (by rw [HNL.out.2.1, HOL.out.2]) (by rw [HNL.out.2.1]; exact hjn), ← hzN]
                exact h.set (by rw [hll]; exact hjn))
              have HJN := Lib.hid hjn
              have i1 : (j : Int) < (k : Int) := by omega
              have i2 : (0 : Int) ≤ (j : Int) := by omega
              have i3 : (i : Int) < (k : Int) := by have := HLT.out; omega
              have i4 : (0 : Int) ≤ (i : Int) := by omega
              clear hj hjn hd hdQ hll hoj hu huQ hm1 hm1Q hm2 hm2Q hz hzN hrp hro hbj
              go_upto_region 25 with fail
              go_region_with (first
                | (go_at_call 59; (with_reducible refine (KM.out _).mono ?_); rintro e w5 ⟨rfl, hb5⟩
                   have HB5 : Hid (Below wj.heap.size wj w5) := by first | exact Lib.hid hb5 | exact Lib.hid (((Below.refl _ wj).drew).trans hb5)
                   have r0f := (HB5.out.frozen (p := ⟨g0, j, none⟩) (cell_in (a := ⟨g0, j, none⟩) r0c)).trans r0f
                   have r0c := (HB5.out.cell (p := ⟨g0, j, none⟩) (cell_in (a := ⟨g0, j, none⟩) r0c)).trans r0c
                   clear hb5)
                | (go_at_call 61; (with_reducible refine (KD.out _).mono ?_); rintro e w6 ⟨rfl, hb6⟩
                   have HB6 : Hid (Below wj.heap.size wj w6) := by first | exact Lib.hid (below2 HB5.out hb6) | exact Lib.hid (below2 HB5.out (((Below.refl _ w5).drew).trans hb6))
                   have r0f := (hb6.frozen (p := ⟨g0, j, none⟩) (cell_in (a := ⟨g0, j, none⟩) r0c)).trans r0f
                   have r0c := (hb6.cell (p := ⟨g0, j, none⟩) (cell_in (a := ⟨g0, j, none⟩) r0c)).trans r0c
                   clear hb6)
                | (go_at_call 60; (with_reducible refine (KA.out _).mono ?_); rintro e w7 ⟨rfl, hb7⟩
                   have HB7 : Hid (Below wj.heap.size wj w7) := by first | exact Lib.hid (below2 HB6.out hb7) | exact Lib.hid (below2 HB6.out (((Below.refl _ w6).drew).trans hb7))
                   have r0f := (hb7.frozen (p := ⟨g0, j, none⟩) (cell_in (a := ⟨g0, j, none⟩) r0c)).trans r0f
                   have r0c := (hb7.cell (p := ⟨g0, j, none⟩) (cell_in (a := ⟨g0, j, none⟩) r0c)).trans r0c
                   clear hb7))
              all_goals
                go_wp2_with fail
                go_roundw
                case rel =>
                  have hb := HB7.out
                  have hs := HBJ.out.size
                  have h0 := HG0.out
                  exact ⟨j + 1, stp64 HJN.out HN.out.2.2, HJN.out, (HRP.out.next hb).far (p := ⟨g0, j, none⟩) (Nat.ne_of_lt HGG.out) _, HSET.out _ (HRO.out.next hb),
                    (HBJ.out.trans (hb.mono (by omega))).setCell (p := ⟨g0, j, none⟩) (Nat.le_refl _) _⟩
                case measure => exact mes64 HJN.out HN.out.2.2
            · obtain rfl : j = k := by omega
              have j1 : decide (j < j) = false := decide_eq_false (Nat.lt_irrefl _)
              have e : NL.take j ++ OL.drop j = NL := by rw [← HNL.out.2.1, List.take_length, List.drop_of_length_le (by rw [HNL.out.2.1, HOL.out.2]; exact Nat.le_refl _), List.append_nil]
              rw [e, HNL.out.1] at hro
              have HRO2 := Lib.hid hro
              clear hj hjn e hrp hro hbj
              go_wp2_with fail
              go_roundw
              case rel => exact ⟨i + 1, stp64 HLT.out HN.out.2.2, HLT.out, HRO2.out, HBJ.out⟩
              case measure => exact mes64 HLT.out HN.out.2.2
    · obtain rfl : i = n := by omega
      have j1 : decide (i < i) = false := decide_eq_false (Nat.lt_irrefl _)
      have HR := Lib.hid hrow
      have HBE := Lib.hid hbel
      clear hi hlt hrow hbel
      go_wp2_with fail
      go_ret
      have e := HG0.out
      rw [e]
      refine ⟨rfl, ?_, HBE.out⟩
      unfold thruL
      rw [HN.out.1]
      exact HR.out

end Go.Proofs.YtapplggboepfaaaGreatDoor
