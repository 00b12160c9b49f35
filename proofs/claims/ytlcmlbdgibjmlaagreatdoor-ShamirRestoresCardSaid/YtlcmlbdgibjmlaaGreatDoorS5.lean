/- The walk of the law ShamirRestores. -/
import Derived.Test.YtlcmlbdgibjmlaaGreatDoorSP
import Derived.Test.YtlcmlbdgibjmlaaGreatDoorS4
namespace Go.Proofs.YtlcmlbdgibjmlaaGreatDoor
open Go.RowKit
set_option maxRecDepth 100000
set_option linter.unusedVariables false
set_option linter.unusedSimpArgs false
set_option maxHeartbeats 4000000

theorem pick_cell {W w5 : World} {ad : Addr} {L : List ByteArray} {i : Nat} {x : ByteArray} (h : SLs W W.heap.size (some ad) L) (hb : Below W.heap.size W w5) (hi : i < L.length) (hx : L.getD i ByteArray.empty = x) : w5.cell? (ad.add i) = some (.string x) := by
  obtain ⟨ad', e, hc⟩ := (h.to hb).at_ hi
  cases e
  rw [← hx]
  exact hc
theorem pick_two {wr w5 w6 : World} {base k n5 : Nat} {u v v5 v6 : Value} {is is5 : List Int} {ls : List ByteArray} {o o2 : Obj} (hI : OwnI wr base u k is) (hS : OwnS wr base v k ls) (hne : ∀ g, u.ownBlock = some g → v.ownBlock ≠ some g)
    (h5 : OwnI w5 base v5 n5 is5) (hv5 : v5.ownBlock = u.ownBlock ∨ v5.ownBlock = some (wr.alloc o).heap.size) (hg : (w5.alloc o2).grownBy w6 v.ownBlock) (hv6 : v6.ownBlock = v.ownBlock ∨ v6.ownBlock = some (w5.alloc o2).heap.size) (hsz : wr.heap.size ≤ w5.heap.size) :
    OwnI w6 base v5 n5 is5 ∧ ∀ g, v5.ownBlock = some g → v6.ownBlock ≠ some g := by
  have hA : ∀ g, v5.ownBlock = some g → v.ownBlock ≠ some g := by
    intro g hg1 hv
    rcases hv5 with e | e
    · rw [e] at hg1; exact hne g hg1 hv
    · rw [e] at hg1
      have h1 := Option.some.inj hg1
      have h2 := (hS.blockOf g hv).2
      rw [World.size_alloc] at h1
      omega
  refine ⟨OwnI.grown (OwnI.kept h5 ((Below.refl w5.heap.size w5).alloc (Nat.le_refl _) o2)) hg (fun g hg1 e => hA g hg1 e), fun g hg1 hv => ?_⟩
  rcases hv6 with e | e
  · rw [e] at hv; exact hA g hg1 hv
  · rw [e] at hv
    have h1 := Option.some.inj hv
    have h2 := (h5.blockOf g hg1).2
    rw [World.size_alloc] at h1
    omega
theorem pick_int {f K k : Nat} (hf : f < 256) (h1 : 1 ≤ K) (h10 : K ≤ 10) (hk : k ≤ K) : (wrap64 (wrap64 (wrap64 (f : Int) + 3 * (K : Int)) - (k : Int))).tmod (K : Int) = (pickA f K k : Int) := by
  have e1 : wrap64 (f : Int) = (f : Int) := IntWalk.wrap64_in _ (by omega)
  have e2 : wrap64 ((f : Int) + 3 * (K : Int)) = ((f + 3 * K : Nat) : Int) := by rw [IntWalk.wrap64_in _ (by omega)]; omega
  have e3 : wrap64 (((f + 3 * K : Nat) : Int) - (k : Int)) = ((f + 3 * K - k : Nat) : Int) := by rw [IntWalk.wrap64_in _ (by omega)]; omega
  rw [e1, e2, e3]
  unfold pickA
  rfl
theorem law19_Restores (q s : ByteArray) (need count : Int) (vals : List ByteArray) (A : Option Addr) (n c : Nat) (seed : ByteArray) (z : Int) (f : Nat) (w : World)
    (hn : vals.length = n) (h : SLs w w.heap.size A vals) (hf : f < 256) (hT : Tab w) (hT10 : Tab10 w) :
    Calls Tryz.prog 6 #[.agg #[.string q, .string s, .int .i64 need, .int .i64 count], .agg #[.slice A n c, .string seed, .int .i64 z], .int .u8 (f : Int)] w fun e w' => e = .returned (.bool true) ∧ Below w.heap.size w w' := by
  have KA := Lib.hid (fun wq (h1 : Below w.heap.size w wq) => law19_awake wq (hT.below h1) (hT10.below h1))
  have HP := Lib.hid (ShB.start w q s need count A n c seed z 34 36)
  by_cases k1 : 8 < q.size
  · have d1 : decide ((8 : Int) < (q.size : Int)) = true := decide_eq_true (by omega)
    clear k1 hn h hT hT10 hf
    go_enter Tryz.func6, Tryz.ntmps6
    go_wp2_with (first | (go_at_call 10; (with_reducible refine (KA.out _ HP.out.bel).mono ?_); rintro e w2 ⟨rfl, hb2⟩; have HP2 := Lib.hid (HP.out.next hb2); clear hb2))
    go_ret
    exact ⟨rfl, HP2.out.bel⟩
  have d1 : decide ((8 : Int) < (q.size : Int)) = false := decide_eq_false (by omega)
  by_cases k2 : 8 < s.size
  · have d2 : decide ((8 : Int) < (s.size : Int)) = true := decide_eq_true (by omega)
    clear k1 k2 hn h hT hT10 hf
    go_enter Tryz.func6, Tryz.ntmps6
    go_wp2_with (first | (go_at_call 10; (with_reducible refine (KA.out _ HP.out.bel).mono ?_); rintro e w2 ⟨rfl, hb2⟩; have HP2 := Lib.hid (HP.out.next hb2); clear hb2))
    go_ret
    exact ⟨rfl, HP2.out.bel⟩
  have d2 : decide ((8 : Int) < (s.size : Int)) = false := decide_eq_false (by omega)
  by_cases k3 : 10 < count
  · have d3 : decide ((10 : Int) < count) = true := decide_eq_true k3
    clear k1 k2 k3 hn h hT hT10 hf
    go_enter Tryz.func6, Tryz.ntmps6
    go_wp2_with (first | (go_at_call 10; (with_reducible refine (KA.out _ HP.out.bel).mono ?_); rintro e w2 ⟨rfl, hb2⟩; have HP2 := Lib.hid (HP.out.next hb2); clear hb2))
    go_ret
    exact ⟨rfl, HP2.out.bel⟩
  have d3 : decide ((10 : Int) < count) = false := decide_eq_false k3
  by_cases k5 : 60 < n
  · have d5 : decide ((60 : Int) < (n : Int)) = true := decide_eq_true (by omega)
    clear k1 k2 k3 k5 hn h hT hT10 hf
    go_enter Tryz.func6, Tryz.ntmps6
    go_wp2_with (first | (go_at_call 10; (with_reducible refine (KA.out _ HP.out.bel).mono ?_); rintro e w2 ⟨rfl, hb2⟩; have HP2 := Lib.hid (HP.out.next hb2); clear hb2))
    go_ret
    exact ⟨rfl, HP2.out.bel⟩
  have d5 : decide ((60 : Int) < (n : Int)) = false := decide_eq_false (by omega)
  by_cases k6 : 60 < seed.size
  · have d6 : decide ((60 : Int) < (seed.size : Int)) = true := decide_eq_true (by omega)
    clear k1 k2 k3 k5 k6 hn h hT hT10 hf
    go_enter Tryz.func6, Tryz.ntmps6
    go_wp2_with (first | (go_at_call 10; (with_reducible refine (KA.out _ HP.out.bel).mono ?_); rintro e w2 ⟨rfl, hb2⟩; have HP2 := Lib.hid (HP.out.next hb2); clear hb2))
    go_ret
    exact ⟨rfl, HP2.out.bel⟩
  have d6 : decide ((60 : Int) < (seed.size : Int)) = false := decide_eq_false (by omega)
  have KP := Lib.hid (fun wq (h1 : Below w.heap.size w wq) => shamir_Split_all q s need count vals A n c seed z wq hn (by omega) (h.to h1) (by omega) (hT10.below h1) (hT.below h1))
  have HC := Lib.hid (show ¬ 10 < count from k3)
  have HT := Lib.hid hT
  have HF := Lib.hid hf
  clear k1 k2 k3 k5 k6 hn h hT hT10 hf
  obtain ⟨E, hE⟩ : ∃ E, E = spl2E q s need count vals seed z := ⟨_, rfl⟩
  by_cases h0 : E = 0
  · subst h0
    have h5 : splE q s need count vals z = 0 := by
      by_cases hx : splE q s need count vals z = 0
      · exact hx
      · have := hE
        unfold spl2E at this
        rw [if_neg hx] at this
        exact absurd this.symm hx
    obtain ⟨_, hisE, hsB, hsq, hN1, hNK, _, hKq⟩ := splE_zero h5
    obtain ⟨Q, hQ⟩ : ∃ Q, Q = num q := ⟨_, rfl⟩
    obtain ⟨S, hS⟩ : ∃ S, S = num s := ⟨_, rfl⟩
    obtain ⟨N, rfl⟩ : ∃ N : Nat, need = N := ⟨need.toNat, by omega⟩
    obtain ⟨K, rfl⟩ : ∃ K : Nat, count = K := ⟨count.toNat, by omega⟩
    have hQB := (isE_zero hisE).eq
    rw [← hQ] at hQB hsq hKq
    rw [← hS] at hsB hsq
    subst hQB hsB
    rw [Int.toNat_natCast] at hKq
    obtain ⟨cs, hcs⟩ : ∃ cs, cs = coinsL vals seed Q z (N - 1) := ⟨_, rfl⟩
    have hlen : cs.length + 1 ≤ N := by rw [hcs, coinsL_len]; omega
    have HSP := Lib.hid (fun wq (h1 : Below w.heap.size w wq) => (KP.out wq h1).mono (R' := fun e w' => (∃ A' c' At nt ct sdt zt, e = .returned (.tuple #[.slice A' K c', .agg #[.slice At nt ct, .string sdt, .int .i64 zt], .int .i64 0]) ∧ SLs w' w'.heap.size A' (shrL Q K (S :: cs))) ∧ Below wq.heap.size wq w') (by
      rintro e w' ⟨⟨_, A', c', At, ct, h1, h2, h3, _⟩ | ⟨h1, _⟩, hb⟩
      · rw [num_B, num_B, Int.toNat_natCast, Int.toNat_natCast, ← hcs] at h2
        exact ⟨⟨A', c', At, n, ct, seed, _, h1, h2⟩, hb⟩
      · exact absurd hE.symm h1))
    have HB := Lib.hid (And.intro hisE (And.intro hsq (And.intro hlen (show 1 ≤ N ∧ N ≤ K ∧ K ≤ 10 ∧ K < Q by have := HC.out; omega))))
    have n1 : decide ((N : Int) < 1) = false := decide_eq_false (by omega)
    have n2 : decide ((K : Int) < (N : Int)) = false := decide_eq_false (by omega)
    have n3 : decide (K < N) = false := decide_eq_false (by omega)
    clear hE hcs hisE hsq hlen hN1 hNK hKq h5 hQ hS KP HC
    go_enter Tryz.func6, Tryz.ntmps6
    go_upto_region 4 with (first
      | (go_at_call 13; (with_reducible refine (HSP.out _ HP.out.bel).mono ?_); rintro e w1 ⟨⟨A1, b1, At1, nt1, bt1, sd1, zt1, rfl, hs1⟩, hb1⟩
         have HP1 := Lib.hid ((HP.out.next hb1).alloc (.cells #[.slice At1 nt1 bt1, .string sd1, .int .i64 zt1] 36))
         have HS1 := Lib.hid (hs1.to ((Below.refl _ _).alloc (Nat.le_refl _) (.cells #[.slice At1 nt1 bt1, .string sd1, .int .i64 zt1] 36)))
         clear hb1 hs1))
    obtain ⟨W1, hW1⟩ : ∃ W1, W1 = w1.alloc (.cells #[.slice At1 nt1 bt1, .string sd1, .int .i64 zt1] 36) := ⟨_, rfl⟩
    rw [← hW1] at HP1 HS1 ⊢
    obtain ⟨g1, hg1⟩ : ∃ g1, g1 = w1.heap.size := ⟨_, rfl⟩
    rw [← hg1]
    clear hW1 hg1 HSP HP d1 d2 d3 d5 d6
    obtain ⟨c0, c1, c2, c3, t0, t1, t2, _⟩ := HP1.out
    go_wp2_with fail
    go_loopw [10, 11, 12] (fun u v kk wr => ∃ k : Nat, kk = .int .i64 (k : Int) ∧ k ≤ N ∧ OwnI wr W1.heap.size u k (idxI (pickL f K k)) ∧ OwnS wr W1.heap.size v k ((pickL f K k).map fun i => B (valL Q (i + 1) (S :: cs))) ∧ (∀ g, u.ownBlock = some g → v.ownBlock ≠ some g) ∧ Below W1.heap.size W1 wr) (fun _ _ kk _ => N - (intOf kk).toNat)
    case atStart => exact ⟨0, rfl, Nat.zero_le _, OwnI.nil_ _ _, OwnS.nil_ _ _, (by intro g hg; cases hg), Below.refl _ _⟩
    case round =>
      obtain ⟨k, rfl, hk, hoi, hos, hne, hbel⟩ := hrel
      obtain ⟨Au, cu, rfl⟩ := hoi.slice
      obtain ⟨Av, cv, rfl⟩ := hos.slice
      have HPR := Lib.hid (HP1.out.next hbel)
      have HOI := Lib.hid hoi
      have HOS := Lib.hid hos
      have HNE := Lib.hid hne
      have HBEL := Lib.hid hbel
      clear c0 c1 c2 c3 t0 t1 t2 hoi hos hne
      obtain ⟨c0, c1, c2, c3, t0, t1, t2, _⟩ := HPR.out
      by_cases hlt : k < N
      · obtain ⟨i, hi⟩ : ∃ i, i = pickA f K k := ⟨_, rfl⟩
        have hiK : i < K := by rw [hi]; exact pickA_lt (by have := HB.out; omega)
        have p1 : decide (k < N) = true := decide_eq_true hlt
        have hw1 : (wrap64 (wrap64 (wrap64 (f : Int) + 3 * (K : Int)) - (k : Int))).tmod (K : Int) = (i : Int) := by
          rw [hi]; exact pick_int HF.out (by have := HB.out; omega) (by have := HB.out; omega) (by have := HB.out; omega)
        have hw2 : wrap64 ((i : Int) + 1) = (i : Int) + 1 := IntWalk.wrap64_in _ (by have := HB.out; omega)
        have HIK := Lib.hid hiK
        have HI := Lib.hid hi
        have HLT := Lib.hid hlt
        have hlt2 : (i : Int) < (K : Int) := by omega
        have hlt3 : (0 : Int) ≤ (i : Int) := by omega
        have hK0 : (K : Int) ≠ 0 := by omega
        obtain ⟨ad, rfl, hc⟩ := (HS1.out.to HBEL.out).at_ (k := i) (by unfold shrL; rw [List.length_map, List.length_range]; exact hiK)
        have hx : (shrL Q K (S :: cs)).getD i ByteArray.empty = B (valL Q (i + 1) (S :: cs)) := by
          unfold shrL
          rw [sgetD_lt (by rw [List.length_map, List.length_range]; exact hiK), List.getElem_map, List.getElem_range]
        obtain ⟨x, hxx⟩ : ∃ x, x = B (valL Q (i + 1) (S :: cs)) := ⟨_, rfl⟩
        rw [← hxx] at hx
        rw [hx] at hc
        have HGX := Lib.hid (And.intro (show i < (shrL Q K (S :: cs)).length by unfold shrL; rw [List.length_map, List.length_range]; exact hiK) hx)
        have hadb := cell_in (a := ad.add i) hc
        have HXX := Lib.hid hxx
        have HCI := Lib.hid hc
        clear hlt hk hi hx hxx
        go_wp2_with (first
          | (at_builtin; refine wpList_append_I rfl (.tmp 100) (.tmp 103) rfl W1.heap.size _ k _ rfl (OwnI.kept HOI.out ((Below.refl _ _).alloc (Nat.le_refl _) _)) _ 1 1 [((i : Int) + 1)] rfl (isl_one _ _ _) rfl (by have := HLT.out; have := HB.out; omega) (by rw [World.size_alloc]; have := HBEL.out.size; omega) ?_; intro v5 w5 h1' h2' h3'
             have HO5 := Lib.hid h1'
             have HG5 := Lib.hid h2'
             have HV5 := Lib.hid h3'
             have HS5 := Lib.hid (OwnS.grown (OwnS.kept (B := 0) HOS.out ((Below.refl wr.heap.size wr).alloc (Nat.le_refl _) (.cells #[.int .i64 ((i : Int) + 1)] 3))) h2' (fun g hg e => HNE.out g e hg))
             have HB5 := Lib.hid (HBEL.out.trans ((((Below.refl wr.heap.size wr).alloc (Nat.le_refl _) (.cells #[.int .i64 ((i : Int) + 1)] 3)).mono HBEL.out.size).trans (below_grown h2' (by rw [World.size_alloc]; have := HBEL.out.size; omega) (fun g hg => (HOI.out.blockOf g hg).1))))
             have hc5 := pick_cell HS1.out HB5.out HGX.out.1 HGX.out.2
             clear h1' h2' h3')
          | (at_builtin; refine wpList_append_S rfl (.tmp 105) (.tmp 110) rfl W1.heap.size _ k _ rfl (OwnS.kept (B := 0) HS5.out ((Below.refl _ _).alloc (Nat.le_refl _) _)) _ 1 1 [x] rfl (sls_one _ _ _) rfl (by have := HLT.out; have := HB.out; omega) (by rw [World.size_alloc]; have := HB5.out.size; omega) ?_; intro v6 w6 h1' h2' h3'
             have HO6 := Lib.hid h1'
             have HI6 := Lib.hid (pick_two HOI.out HOS.out HNE.out HO5.out HV5.out h2' h3' (by have := HG5.out.size; rw [World.size_alloc] at this; omega))
             have HB6 := Lib.hid (HB5.out.trans ((((Below.refl w5.heap.size w5).alloc (Nat.le_refl _) (.cells #[.string x] 22)).mono HB5.out.size).trans (below_grown h2' (by rw [World.size_alloc]; have := HB5.out.size; omega) (fun g hg => (HS5.out.blockOf g hg).1))))
             clear h1' h2' h3'))
        refine ⟨⟨k + 1, stepK HLT.out (by have := HB.out; omega), HLT.out, ?_, ?_, HI6.out.2, HB6.out⟩, measK2 HLT.out (by have := HB.out; omega)⟩
        · have e1 : idxI (pickL f K (k + 1)) = idxI (pickL f K k) ++ [(i : Int) + 1] := by rw [pickL_snoc, HI.out]; unfold idxI; rw [List.map_append]; rfl
          rw [e1]; exact HI6.out.1
        · have e1 : ((pickL f K (k + 1)).map fun i => B (valL Q (i + 1) (S :: cs))) = ((pickL f K k).map fun i => B (valL Q (i + 1) (S :: cs))) ++ [x] := by rw [pickL_snoc, List.map_append, HXX.out, HI.out]; rfl
          rw [e1]; exact HO6.out
      · have p1 : decide (k < N) = false := decide_eq_false hlt
        obtain rfl : k = N := by omega
        obtain ⟨Ai, ci, ei, hi1⟩ := HOI.out.form
        cases ei
        obtain ⟨As, c9, es, hs9⟩ := HOS.out.form HBEL.out.size
        cases es
        have hcomb := comb_restores (cs := cs) (L := pickL f K k) HB.out.1 HB.out.2.1 (fun i hi => by
          obtain ⟨j, hj, rfl⟩ := List.mem_map.1 hi
          have := pickA_lt (f := f) (K := K) (k := j) (by have := HB.out; omega)
          have := HB.out
          omega) (pickL_nodup (by have := HB.out; omega)) (by rw [pickL_len]; exact HB.out.2.2.1) (by rw [pickL_len]; have := HB.out; omega)
        have hkc := shamir_Combine (B Q) (idxI (pickL f K k)) ((pickL f K k).map fun i => B (valL Q (i + 1) (S :: cs))) Au Av k k cu cv wr (by unfold idxI; rw [List.length_map, pickL_len]) (by rw [List.length_map, pickL_len]) (by have := HB.out; omega) (by have := HB.out; omega) hi1 hs9 (HT.out.below HPR.out.bel)
        rw [hcomb] at hkc
        have KC := Lib.hid hkc
        clear hlt hk hi1 hs9 hcomb hkc
        go_wp2_with (first
          | (go_at_call 18; (with_reducible refine KC.out.mono ?_); rintro e w2 ⟨rfl, hb2⟩; have HP2 := Lib.hid (HPR.out.next hb2); obtain ⟨c0, c1, c2, c3, t0, t1, t2, _⟩ := HP2.out; clear hb2)
          | (go_at_call 10; (with_reducible refine (KA.out _ HP2.out.bel).mono ?_); rintro e w3 ⟨rfl, hb3⟩; have HP3 := Lib.hid (HP2.out.next hb3); obtain ⟨c0, c1, c2, c3, t0, t1, t2, _⟩ := HP3.out; clear hb3))
        go_ret
        exact ⟨rfl, HP3.out.bel⟩
  · have hpost : ∀ k e w', splitPost k q s need count vals A n seed z e w' → e = splNil E := by
      rintro k e w' (⟨h1, _⟩ | ⟨_, h2⟩)
      · exact absurd (hE.trans h1) h0
      · rw [hE]; exact h2
    have KP2 := Lib.hid (fun wq (h1 : Below w.heap.size w wq) => (KP.out wq h1).mono (R' := fun e w' => e = splNil E ∧ Below wq.heap.size wq w') (fun e w' ⟨hp, hb⟩ => ⟨hpost _ _ _ hp, hb⟩))
    unfold splNil at KP2
    have k0 : (E == 0) = false := by rw [beq_eq_false_iff_ne]; exact h0
    clear hE h0 KP HC hpost
    go_enter Tryz.func6, Tryz.ntmps6
    go_wp2_with (first
      | (go_at_call 13; (with_reducible refine (KP2.out _ HP.out.bel).mono ?_); rintro e w1 ⟨rfl, hb1⟩
         have HP1 := Lib.hid ((HP.out.next hb1).alloc (.cells #[.slice none 0 0, .string ⟨#[]⟩, .int .i64 0] 36))
         clear hb1)
      | (go_at_call 10; (with_reducible refine (KA.out _ HP1.out.bel).mono ?_); rintro e w2 ⟨rfl, hb2⟩; have HP2 := Lib.hid (HP1.out.next hb2); clear hb2))
    go_ret
    exact ⟨rfl, HP2.out.bel⟩

end Go.Proofs.YtlcmlbdgibjmlaaGreatDoor
