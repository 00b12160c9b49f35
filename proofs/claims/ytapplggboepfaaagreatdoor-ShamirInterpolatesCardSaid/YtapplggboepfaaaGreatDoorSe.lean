/- The walks of shamir: check, below, value, Eval; prime.Is in general. -/
import Derived.Test.YtapplggboepfaaaGreatDoorSd
import Derived.Test.YtapplggboepfaaaGreatDoorMo
import Derived.Test.YtapplggboepfaaaGreatDoorBR
import Derived.Test.YtapplggboepfaaaGreatDoorZM1
import Derived.Deep.RegionHeld3
namespace Go.Proofs.YtapplggboepfaaaGreatDoor
open Go.RowKit
set_option maxRecDepth 100000
set_option linter.unusedVariables false
set_option maxHeartbeats 4000000

theorem prime_Is (s : ByteArray) (w : World) (hT : Tab w) :
    Calls Tryz.prog 47 #[.string s] w fun e w' => e = .returned (.tuple #[.bool (isPS s).1, .int .i64 (isPS s).2]) ∧ Below w.heap.size w w' := by
  have hr : isPS s = (decide ((smallS s).2 = 0) && isS (smallS s).1, (smallS s).2) := rfl
  have KS := fun w => prime_small s w
  have hlt := smallS_lt s
  obtain ⟨x, hx⟩ : ∃ x, x = (smallS s).1 := ⟨_, rfl⟩
  obtain ⟨er, he⟩ : ∃ er, er = (smallS s).2 := ⟨_, rfl⟩
  rw [← hx, ← he] at hr
  rw [← hx] at hlt
  simp only [← hx, ← he] at KS
  have KS := Lib.hid KS
  have KI := Lib.hid (fun w (hT : Tab w) => prime_is x w hlt hT)
  have HT := Lib.hid hT
  rw [hr]
  by_cases h0 : er = 0
  · subst h0
    clear hr hx he hlt hT
    go_enter Tryz.func47, Tryz.ntmps47
    go_wp2_with (first
      | (go_at_call 65; (with_reducible refine (KS.out _).mono ?_); rintro e w1 ⟨rfl, rfl⟩)
      | (go_at_call 66; (with_reducible refine (KI.out _ HT.out).mono ?_); rintro e w2 ⟨rfl, hb2⟩; have HB2 := Lib.hid hb2; clear hb2))
    go_ret2
    exact ⟨by simp, HB2.out⟩
  · have k0 : (er == 0) = false := by rw [beq_eq_false_iff_ne]; exact h0
    have H0 := Lib.hid h0
    clear hr hx he hlt hT h0
    go_enter Tryz.func47, Tryz.ntmps47
    go_wp2_with (first
      | (go_at_call 65; (with_reducible refine (KS.out _).mono ?_); rintro e w1 ⟨rfl, rfl⟩))
    go_ret2
    exact ⟨by simp [H0.out], Below.refl _ _⟩
/-- A slice of numbers. -/
abbrev LSl := Option Addr × Nat × Nat × List ByteArray
/-- A row of slices of numbers in memory. -/
def LLs (w : World) (g : Nat) (L : List LSl) : Prop :=
  ∀ k l, L[k]? = some l → w.cell? ⟨g, k, none⟩ = some (.slice l.1 l.2.1 l.2.2.1) ∧ l.2.2.2.length = l.2.1 ∧ l.2.1 ≤ 1000 ∧ SLs w w.heap.size l.1 l.2.2.2
theorem all_upto {L : List LSl} {p : List ByteArray → Bool} {N : Nat} (hN : L.length = N) (h : ∀ j l, j < N → L[j]? = some l → p l.2.2.2 = true) : (L.map fun l => l.2.2.2).all p = true := by
  rw [List.all_eq_true]
  intro x hx
  obtain ⟨l, hl, rfl⟩ := List.mem_map.1 hx
  obtain ⟨j, hj, rfl⟩ := List.getElem_of_mem hl
  exact h j _ (by omega) (List.getElem?_eq_getElem hj)
theorem all_fails {L : List LSl} {p : List ByteArray → Bool} {k : Nat} {l : LSl} (hl : L[k]? = some l) (h : p l.2.2.2 = false) : (L.map fun l => l.2.2.2).all p = false := by
  rw [List.all_eq_false]
  exact ⟨_, List.mem_map.2 ⟨l, List.mem_of_getElem? hl, rfl⟩, by rw [h]; decide⟩
theorem shamir_check (q : ByteArray) (L : List LSl) (g N : Nat) (w : World) (hN : L.length = N) (hm : N ≤ 1000) (hL : LLs w g L) (hT : Tab w) :
    Calls Tryz.prog 27 #[.string q, .slice (some ⟨g, 0, none⟩) N N] w fun e w' => e = .returned (.int .i64 (shE q (L.map fun l => l.2.2.2))) ∧ Below w.heap.size w w' := by
  have HL := Lib.hid hL
  have HN := Lib.hid hN
  have HT := Lib.hid hT
  have KIS := Lib.hid (fun w hT => prime_Is q w hT)
  clear hL hN hT
  go_enter Tryz.func27, Tryz.ntmps27
  go_wp2_with fail
  go_loop [13] (fun v => ∃ k : Nat, v = .int .i64 k ∧ k ≤ N ∧ ∀ j l, j < k → L[j]? = some l → l.2.2.2.all valid = true) (fun v => N - (intOf v).toNat)
  case atStart => exact ⟨0, rfl, Nat.zero_le _, fun j l h => absurd h (Nat.not_lt_zero _)⟩
  case round =>
    obtain ⟨k, rfl, hk, hall⟩ := hrel
    have HA := Lib.hid hall
    clear hall
    by_cases hlt : k < N
    · have k1 : decide (k < N) = true := decide_eq_true hlt
      obtain ⟨l, hl⟩ : ∃ l, L[k]? = some l := ⟨_, List.getElem?_eq_getElem (by rw [HN.out]; exact hlt)⟩
      obtain ⟨hc, hln, hl1, hls⟩ := HL.out k l hl
      obtain ⟨A, n, c, vals⟩ := l
      have HLK := Lib.hid hl
      have HLN := Lib.hid hln
      have HLS := Lib.hid hls
      have HLT := Lib.hid hlt
      clear hl hln hls hlt
      replace hc : w.cell? ⟨g, k, none⟩ = some (.slice A n c) := hc
      replace hl1 : n ≤ 1000 := hl1
      go_wp2_with fail
      go_loop [19] (fun v => ∃ j : Nat, v = .int .i64 j ∧ j ≤ n ∧ ∀ i, i < j → valid (vals.getD i ByteArray.empty) = true) (fun v => n - (intOf v).toNat)
      case atStart => exact ⟨0, rfl, Nat.zero_le _, fun i h => absurd h (Nat.not_lt_zero _)⟩
      case round =>
        obtain ⟨j, rfl, hj, hvl⟩ := hrel
        have HVL := Lib.hid hvl
        clear hvl
        by_cases hlt : j < n
        · obtain ⟨ad, hA, hcx⟩ := HLS.out.at_ (k := j) (by rw [HLN.out]; exact hlt)
          replace hA : A = some ad := hA
          subst hA
          replace hcx : w.cell? (ad.add j) = some (.string (vals.getD j ByteArray.empty)) := hcx
          obtain ⟨x, hx⟩ : ∃ x, vals.getD j ByteArray.empty = x := ⟨_, rfl⟩
          rw [hx] at hcx
          have j1 : decide (j < n) = true := decide_eq_true hlt
          have HX := Lib.hid hx
          have HJ := Lib.hid hlt
          have KV := fun w => natural_Valid x w
          clear hx hlt
          cases hv : valid x
          · rw [hv] at KV
            have KV := Lib.hid KV
            have HV := Lib.hid hv
            clear hv
            go_wp2_with (go_at_call 46; (with_reducible refine (KV.out _).mono ?_); rintro e w1 ⟨rfl, rfl⟩)
            go_ret
            refine ⟨ret_int ?_, Below.refl _ _⟩
            unfold shE
            rw [all_fails (p := fun l => l.all valid) HLK.out (all_not' (k := j) (by show j < vals.length; rw [show vals.length = n from HLN.out]; exact HJ.out) (by rw [HX.out]; exact HV.out)), if_neg (by decide)]
          · rw [hv] at KV
            have KV := Lib.hid KV
            have HV := Lib.hid hv
            clear hv
            go_wp2_with (go_at_call 46; (with_reducible refine (KV.out _).mono ?_); rintro e w1 ⟨rfl, rfl⟩)
            go_round
            case rel => exact ⟨j + 1, by go_num, HJ.out, fun i hi => by
              by_cases e : i = j
              · subst e; rw [HX.out]; exact HV.out
              · exact HVL.out i (by omega)⟩
            case measure => have := HJ.out; simp [intOf]; omega
        · obtain rfl : j = n := by omega
          have j1 : decide (j < j) = false := decide_eq_false (Nat.lt_irrefl _)
          clear hlt hj
          go_wp2_with fail
          go_round
          case rel => exact ⟨k + 1, by go_num, HLT.out, fun i l' hi hl' => by
            by_cases e : i = k
            · subst e
              rw [HLK.out] at hl'
              injection hl' with hl'
              subst hl'
              exact all_of' (fun i hi => HVL.out i (by rw [← HLN.out]; exact hi))
            · exact HA.out i l' (by omega) hl'⟩
          case measure => have := HLT.out; simp [intOf]; omega
    · obtain rfl : k = N := by omega
      have k1 : decide (k < k) = false := decide_eq_false (Nat.lt_irrefl _)
      have hsh : shE q (L.map fun l => l.2.2.2) = isE q := by
        unfold shE
        rw [all_upto (p := fun l => l.all valid) HN.out (fun j l hj hl => HA.out j l hj hl), if_pos rfl]
      have HSH := Lib.hid hsh
      have hie : isE q = if (isPS q).2 = 0 then (if (isPS q).1 = true then 0 else 12) else (isPS q).2 := rfl
      obtain ⟨b, hb⟩ : ∃ b, b = (isPS q).1 := ⟨_, rfl⟩
      obtain ⟨er, her⟩ : ∃ er, er = (isPS q).2 := ⟨_, rfl⟩
      rw [← hb, ← her] at hie
      have KI := fun w hT => KIS.out w hT
      simp only [← hb, ← her] at KI
      have KI := Lib.hid KI
      have HIE := Lib.hid hie
      clear hlt hk hsh hie hb her
      by_cases h0 : er = 0
      · subst h0
        cases b
        · go_wp2_with (go_at_call 47; (with_reducible refine (KI.out _ HT.out).mono ?_); rintro e w2 ⟨rfl, hb2⟩; have HB2 := Lib.hid hb2; clear hb2)
          go_ret
          exact ⟨ret_int (by rw [HSH.out, HIE.out]; rfl), HB2.out⟩
        · go_wp2_with (go_at_call 47; (with_reducible refine (KI.out _ HT.out).mono ?_); rintro e w2 ⟨rfl, hb2⟩; have HB2 := Lib.hid hb2; clear hb2)
          go_ret
          exact ⟨ret_int (by rw [HSH.out, HIE.out]; rfl), HB2.out⟩
      · have k0 : (er == 0) = false := by rw [beq_eq_false_iff_ne]; exact h0
        have H0 := Lib.hid h0
        clear h0
        go_wp2_with (go_at_call 47; (with_reducible refine (KI.out _ HT.out).mono ?_); rintro e w2 ⟨rfl, hb2⟩; have HB2 := Lib.hid hb2; clear hb2)
        go_ret
        exact ⟨ret_int (by rw [HSH.out, HIE.out, if_neg H0.out]), HB2.out⟩
theorem shamir_below (q : ByteArray) (vals : List ByteArray) (A : Option Addr) (n c : Nat) (w : World) (hn : vals.length = n) (hm : n ≤ 1000) (h : SLs w w.heap.size A vals) :
    Calls Tryz.prog 28 #[.string q, .slice A n c] w fun e w' => e = .returned (.bool (blwS q vals)) ∧ w = w' := by
  have HS := Lib.hid h
  have HN := Lib.hid hn
  clear h hn
  go_enter Tryz.func28, Tryz.ntmps28
  go_wp2_with fail
  go_loop [9] (fun v => ∃ j : Nat, v = .int .i64 j ∧ j ≤ n ∧ ∀ i, i < j → decide (natCmp (vals.getD i ByteArray.empty) q < 0) = true) (fun v => n - (intOf v).toNat)
  case atStart => exact ⟨0, rfl, Nat.zero_le _, fun i h => absurd h (Nat.not_lt_zero _)⟩
  case round =>
    obtain ⟨j, rfl, hj, hvl⟩ := hrel
    have HVL := Lib.hid hvl
    clear hvl
    by_cases hlt : j < n
    · obtain ⟨ad, rfl, hcx⟩ := HS.out.at_ (k := j) (by rw [HN.out]; exact hlt)
      obtain ⟨x, hx⟩ : ∃ x, vals.getD j ByteArray.empty = x := ⟨_, rfl⟩
      rw [hx] at hcx
      have j1 : decide (j < n) = true := decide_eq_true hlt
      have KC := fun w => natural_Cmp x q w
      obtain ⟨cv, hcv⟩ : ∃ cv, cv = natCmp x q := ⟨_, rfl⟩
      simp only [← hcv] at KC
      have KC := Lib.hid KC
      have HX := Lib.hid hx
      have HJ := Lib.hid hlt
      have HCV := Lib.hid hcv
      clear hx hlt hcv
      by_cases h0 : cv < 0
      · have c1 : decide (0 ≤ cv) = false := decide_eq_false (by omega)
        have H0 := Lib.hid h0
        clear h0
        go_wp2_with (go_at_call 29; (with_reducible refine (KC.out _).mono ?_); rintro e w1 ⟨rfl, rfl⟩)
        go_round
        case rel => exact ⟨j + 1, by go_num, HJ.out, fun i hi => by
          by_cases e : i = j
          · subst e; rw [HX.out, ← HCV.out]; exact decide_eq_true H0.out
          · exact HVL.out i (by omega)⟩
        case measure => have := HJ.out; simp [intOf]; omega
      · have c1 : decide (0 ≤ cv) = true := decide_eq_true (by omega)
        have H0 := Lib.hid h0
        clear h0
        go_wp2_with (go_at_call 29; (with_reducible refine (KC.out _).mono ?_); rintro e w1 ⟨rfl, rfl⟩)
        go_ret
        refine ⟨ret_bool ?_, rfl⟩
        unfold blwS
        exact (all_not' (p := fun x => decide (natCmp x q < 0)) (k := j) (by rw [HN.out]; exact HJ.out) (by rw [HX.out, ← HCV.out]; exact decide_eq_false (by have := H0.out; omega))).symm
    · obtain rfl : j = n := by omega
      have j1 : decide (j < j) = false := decide_eq_false (Nat.lt_irrefl _)
      clear hlt hj
      go_wp2_with fail
      go_ret
      refine ⟨ret_bool ?_, rfl⟩
      unfold blwS
      exact (all_of' (p := fun x => decide (natCmp x q < 0)) (fun i hi => HVL.out i (by rw [← HN.out]; exact hi))).symm
theorem valL_drop {q x : Nat} {cs : List Nat} {k : Nat} (h : k < cs.length) : valL q x (cs.drop k) = (valL q x (cs.drop (k + 1)) * x % q + cs.getD k 0) % q := by
  rw [List.drop_eq_getElem_cons h, valL, ← List.getElem_eq_getD (h := h)]
theorem map_B_getD (cs : List Nat) {k : Nat} (h : k < cs.length) : (cs.map B).getD k ByteArray.empty = B (cs.getD k 0) := by
  simp [List.getD_eq_getElem?_getD, h]
theorem shamir_value (Q x : Nat) (cs : List Nat) (A : Option Addr) (n c : Nat) (w : World) (hQ : Q < 18446744073709551616) (h2 : 0 < Q) (hx : x < 18446744073709551616) (hc : ∀ a ∈ cs, a < Q) (hn : cs.length = n) (hm : n ≤ 1000) (h : SLs w w.heap.size A (cs.map B)) :
    Calls Tryz.prog 30 #[.string (B Q), .slice A n c, .string (B x)] w fun e w' => e = .returned (.string (B (valL Q x cs))) ∧ Below w.heap.size w w' := by
  have HS := Lib.hid h
  have HN := Lib.hid hn
  have HQ := Lib.hid (And.intro hQ (And.intro h2 hx))
  have HC := Lib.hid hc
  have wn : wrap64 ((n : Int) - 1) = (n : Int) - 1 := IntWalk.wrap64_in _ (by omega)
  clear h hn hQ h2 hx hc
  go_enter Tryz.func30, Tryz.ntmps30
  go_wp2_with fail
  clear wn
  go_loopw [8, 7] (fun v y wr => ∃ i : Nat, v = .int .i64 ((i : Int) - 1) ∧ i ≤ n ∧ y = .string (B (valL Q x (cs.drop i))) ∧ Below w.heap.size w wr) (fun v _ _ => (intOf v + 1).toNat)
  case atStart => exact ⟨n, rfl, Nat.le_refl _, by rw [List.drop_of_length_le (by rw [HN.out]; exact Nat.le_refl _)]; rfl, Below.refl _ _⟩
  case round =>
    obtain ⟨i, rfl, hi, rfl, hb⟩ := hrel
    have HB := Lib.hid hb
    by_cases h0 : i = 0
    · subst h0
      have k1 : decide ((0 : Int) ≤ ((0 : Nat) : Int) - 1) = false := by decide
      clear hb hi
      go_wp2_with fail
      go_ret
      exact ⟨rfl, HB.out⟩
    · obtain ⟨k, rfl⟩ : ∃ k, i = k + 1 := ⟨i - 1, by omega⟩
      have hk : k < cs.length := by rw [HN.out]; omega
      obtain ⟨ad, rfl, hcx⟩ := (HS.out.to hb).at_ (k := k) (by rw [List.length_map]; exact hk)
      rw [map_B_getD cs hk] at hcx
      have hv := valL_drop (q := Q) (x := x) hk
      obtain ⟨d, hd⟩ : ∃ d, d = cs.getD k 0 := ⟨_, rfl⟩
      have hdQ : d < Q := by rw [hd, ← List.getElem_eq_getD (h := hk)]; exact HC.out _ (List.getElem_mem hk)
      obtain ⟨y, hy⟩ : ∃ y, y = valL Q x (cs.drop (k + 1)) := ⟨_, rfl⟩
      have hyQ : y < Q := by rw [hy]; exact valL_lt HQ.out.2.1 _
      rw [← hd] at hcx hv
      rw [← hy] at hv ⊢
      obtain ⟨m, hm2⟩ : ∃ m, m = y * x % Q := ⟨_, rfl⟩
      have hQ := HQ.out
      have hmQ : m < Q := by rw [hm2]; exact Nat.mod_lt _ hQ.2.1
      have KM := Lib.hid (fun w => modular_Mul y x Q w (by omega) hQ.2.2 hQ.1 hQ.2.1)
      have KA := Lib.hid (fun w => modular_Add m d Q w (by omega) (by omega) hQ.1 hQ.2.1)
      rw [← hm2] at KM hv
      rw [← hv] at KA
      have e1 : (((k + 1 : Nat) : Int) - 1) = (k : Int) := by omega
      have HLK := Lib.hid hi
      rw [e1]
      have wk : wrap64 ((k : Int) - 1) = (k : Int) - 1 := IntWalk.wrap64_in _ (by omega)
      have HWK := Lib.hid wk
      clear hb hi h0 hk hv hd hdQ hy hyQ hm2 hQ hmQ e1 wk
      have k1 : decide ((0 : Int) ≤ (k : Int)) = true := decide_eq_true (by omega)
      have k2 : (k : Int) < (n : Int) := by have := HLK.out; omega
      have k3 : (0 : Int) ≤ (k : Int) := by omega
      go_wp2_with (first
        | (go_at_call 49; (with_reducible refine (KM.out _).mono ?_); rintro e w2 ⟨rfl, hb2⟩
           have hcx2 : w2.cell? (ad.add k) = some (.string (B d)) := (hb2.cell (p := ad.add k) (cell_in hcx)).trans hcx
           have HB2 := Lib.hid (HB.out.trans (hb2.mono HB.out.size))
           clear hb2)
        | (go_at_call 50; (with_reducible refine (KA.out _).mono ?_); rintro e w3 ⟨rfl, hb3⟩
           have HB3 := Lib.hid (HB2.out.trans (hb3.mono HB2.out.size))
           clear hb3))
      go_roundw
      case rel => exact ⟨k, by first | rfl | rw [HWK.out], by have := HLK.out; omega, rfl, HB3.out⟩
      case measure => (try rw [HWK.out]); simp only [intOf]; omega

end Go.Proofs.YtapplggboepfaaaGreatDoor
