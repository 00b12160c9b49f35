/- The law ParamsCoins: it returns true for every number of bits and every tape. -/
import Derived.Test.YtfggpgiinihflaaDoorZM4
import Derived.Test.YtfggpgiinihflaaDoorYG
namespace Go.Proofs.YtfggpgiinihflaaDoor
open Go.RowKit
set_option maxRecDepth 100000
set_option linter.unusedVariables false
set_option maxHeartbeats 4000000

theorem safeD_replay {bits : Int} {vals : List ByteArray} {seed : ByteArray} {z : Int} {K : Nat} (h : (safeD bits vals seed z).1 = 0) (hK : (safeD bits vals seed z).2.2 - z = (K : Nat)) (h4 : K ≤ 400) :
    safeD bits ((coinsL vals seed (2 ^ (bits.toNat - 2)) z K).map B) ByteArray.empty 0 = ((0 : Int), (safeD bits vals seed z).2.1, ((K : Nat) : Int)) ∧ 1 ≤ K ∧ (∀ i, i < K → (belowS vals seed (z + (i : Nat)) (2 ^ (bits.toNat - 2))).1 = 0) := by
  obtain ⟨a1, a2, a3, _⟩ := safeD_found h
  have e : safeD bits vals seed z = searchS vals seed (2 ^ (bits.toNat - 2)) (tryQ bits.toNat) 65536 z := by unfold safeD; rw [if_pos a3, if_pos ⟨a1, a2⟩]
  rw [e] at h hK ⊢
  have hm0 : 1 ≤ 2 ^ (bits.toNat - 2) := Nat.pow_pos (by decide)
  have hm : 2 ^ (bits.toNat - 2) < 18446744073709551616 := Nat.lt_of_le_of_lt (Nat.pow_le_pow_right (n := 2) (by decide) (by omega : bits.toNat - 2 ≤ 58)) (by decide)
  obtain ⟨h1, h2⟩ := searchS_replay hm0 hm rfl h hK h4
  obtain ⟨t, t1, tk, ha, _, _, hd⟩ := searchS_ok _ _ h
  have htK : t = K := by
    rw [hd] at hK
    have : z + (t : Nat) - z = ((K : Nat) : Int) := hK
    omega
  refine ⟨?_, h2, by rw [← htK]; exact ha⟩
  have hg : goodT ((coinsL vals seed (2 ^ (bits.toNat - 2)) z K).map B) 0 = true := by
    cases hg : goodT ((coinsL vals seed (2 ^ (bits.toNat - 2)) z K).map B) 0
    · exfalso
      have hb : belowS ((coinsL vals seed (2 ^ (bits.toNat - 2)) z K).map B) ByteArray.empty 0 (2 ^ (bits.toNat - 2)) = (3, 0) := by unfold belowS; rw [hg]; rfl
      have := searchS_err (vals := (coinsL vals seed (2 ^ (bits.toNat - 2)) z K).map B) (seed := ByteArray.empty) (m := 2 ^ (bits.toNat - 2)) (f := tryQ bits.toNat) (k := 65535) (z := 0) (by rw [hb]; decide)
      rw [hb] at this
      rw [h1] at this
      cases this
    · rfl
  unfold safeD
  rw [if_pos hg, if_pos ⟨a1, a2⟩]
  exact h1
theorem safeD_cap {bits : Int} {vals : List ByteArray} {seed : ByteArray} {z : Int} (h : (safeD bits vals seed z).1 = 0) : (safeD bits vals seed z).2.2 - z ≤ 65536 := by
  obtain ⟨a1, a2, a3, _⟩ := safeD_found h
  have e : safeD bits vals seed z = searchS vals seed (2 ^ (bits.toNat - 2)) (tryQ bits.toNat) 65536 z := by unfold safeD; rw [if_pos a3, if_pos ⟨a1, a2⟩]
  rw [e] at h ⊢
  obtain ⟨t, t1, tk, ha, _, _, hd⟩ := searchS_ok _ _ h
  rw [hd]
  show z + (t : Nat) - z ≤ 65536
  omega
/-- The boxes of the law: the tape, and where the search's tape stands. -/
structure BoxC (w wx : World) (A : Option Addr) (n c : Nat) (seed : ByteArray) (z : Int) (gb : Nat) (z2 : Int) : Prop where
  t0 : wx.cell? ⟨w.heap.size, 0, none⟩ = some (.slice A n c)
  t1 : wx.cell? ⟨w.heap.size, 1, none⟩ = some (.string seed)
  t2 : wx.cell? ⟨w.heap.size, 2, none⟩ = some (.int .i64 z)
  y : wx.cell? ⟨gb, 2, none⟩ = some (.int .i64 z2)
  bel : Below w.heap.size w wx
theorem BoxC.next {w wx wy : World} {A : Option Addr} {n c : Nat} {seed : ByteArray} {z : Int} {gb : Nat} {z2 : Int} (h : BoxC w wx A n c seed z gb z2) (hb : Below wx.heap.size wx wy) : BoxC w wy A n c seed z gb z2 :=
  ⟨(hb.cell (cell_in h.t0)).trans h.t0, (hb.cell (cell_in h.t1)).trans h.t1, (hb.cell (cell_in h.t2)).trans h.t2, (hb.cell (cell_in h.y)).trans h.y, h.bel.trans (hb.mono h.bel.size)⟩
theorem BoxC.made {w w2 : World} {A A2 : Option Addr} {n c n2 c2 : Nat} {seed sd : ByteArray} {z z2 : Int} (h : BoxT w w2 A n c seed z) : BoxC w (w2.alloc (.cells #[.slice A2 n2 c2, .string sd, .int .i64 z2] 24)) A n c seed z w2.heap.size z2 := by
  have h1 := h.alloc (.cells #[.slice A2 n2 c2, .string sd, .int .i64 z2] 24)
  exact ⟨h1.t0, h1.t1, h1.t2, by simp [go_sem], h1.bel⟩
theorem BoxC.far3 {w wx : World} {A : Option Addr} {n c : Nat} {seed : ByteArray} {z : Int} {gb b : Nat} {z2 : Int} {x y t : Value} (h : BoxC w wx A n c seed z gb z2) (h1 : b ≠ w.heap.size) (h2 : b ≠ gb) (hb : w.heap.size ≤ b) :
    BoxC w (((wx.setCell ⟨b, 0, none⟩ x).setCell ⟨b, 1, none⟩ y).setCell ⟨b, 2, none⟩ t) A n c seed z gb z2 :=
  ⟨keep3 h1 h.t0, keep3 h1 h.t1, keep3 h1 h.t2, keep3 h2 h.y, ((h.bel.setCell (p := ⟨b, 0, none⟩) hb x).setCell (p := ⟨b, 1, none⟩) hb y).setCell (p := ⟨b, 2, none⟩) hb t⟩
theorem SLs.farW {w4 : World} {b : Nat} {ad : Addr} {L : List ByteArray} {x y t : Value} (hs : SLs w4 w4.heap.size (some ad) L) (h : b ≠ ad.block) :
    SLs (((w4.setCell ⟨b, 0, none⟩ x).setCell ⟨b, 1, none⟩ y).setCell ⟨b, 2, none⟩ t) (((w4.setCell ⟨b, 0, none⟩ x).setCell ⟨b, 1, none⟩ y).setCell ⟨b, 2, none⟩ t).heap.size (some ad) L := by
  have e : (((w4.setCell ⟨b, 0, none⟩ x).setCell ⟨b, 1, none⟩ y).setCell ⟨b, 2, none⟩ t).heap.size = w4.heap.size := by simp
  rw [e]
  exact SLs.far3 hs (fun a ha => by cases ha; exact h)
theorem law_coins (bits : Int) (vals : List ByteArray) (A : Option Addr) (n c : Nat) (seed : ByteArray) (z : Int) (w : World) (hn : vals.length = n) (hm : n ≤ maxLen) (hsl : SLs w w.heap.size A vals) (hT : Tab w) (hT10 : Tab10 w) :
    Calls Tryd.prog 4 #[.int .i64 bits, .agg #[.slice A n c, .string seed, .int .i64 z]] w fun e w' => e = .returned (.bool true) ∧ Below w.heap.size w w' := by
  have KAW := Lib.hid (fun wq (h1 : Below w.heap.size w wq) => law11_awake wq (hT.below h1) (hT10.below h1))
  have HA0 := Lib.hid (BoxT.start w A n c seed z)
  have KSM := Lib.hid (fun wq => law11_small bits wq)
  cases hsm : smallT bits
  · rw [hsm] at KSM
    clear hn hm hsl hT hT10 hsm
    go_enter Tryd.func4, Tryd.ntmps4
    go_wp2_with (first
      | (go_at_call 7; (with_reducible refine (KSM.out _).mono ?_); rintro e w0 ⟨rfl, rfl⟩)
      | (go_at_call 9; (with_reducible refine (KAW.out _ HA0.out.bel).mono ?_); rintro e w5 ⟨rfl, hb5⟩
         have HA6 := Lib.hid (HA0.out.next hb5)
         clear hb5))
    go_ret
    exact ⟨rfl, HA6.out.bel⟩
  · rw [hsm] at KSM
    by_cases h3 : bits < 3
    · have p1 : decide (bits < 3) = true := decide_eq_true h3
      clear hn hm hsl hT hT10 hsm h3
      go_enter Tryd.func4, Tryd.ntmps4
      go_wp2_with (first
        | (go_at_call 7; (with_reducible refine (KSM.out _).mono ?_); rintro e w0 ⟨rfl, rfl⟩)
        | (go_at_call 9; (with_reducible refine (KAW.out _ HA0.out.bel).mono ?_); rintro e w5 ⟨rfl, hb5⟩
           have HA6 := Lib.hid (HA0.out.next hb5)
           clear hb5))
      go_ret
      exact ⟨rfl, HA6.out.bel⟩
    · have p1 : decide (bits < 3) = false := decide_eq_false h3
      by_cases hf : FewP vals seed z
      · have KFW := Lib.hid (fun wq (h1 : Below w.heap.size w wq) => few_is vals A n c wq.heap.size seed z wq hn hm ((hsl.below h1).more h1.size) (Nat.le_refl _) true ⟨fun _ => hf, fun _ => rfl⟩)
        have hm1 : n ≤ 1000 := by have := hf.1; omega
        have hs1 : seed.size ≤ 100000 := by have := hf.2.2.1; omega
        have KP0 := fun wq (h1 : Below w.heap.size w wq) => params_SafePrime bits vals A n c seed z wq hn hm1 ((hsl.below h1).more h1.size) hs1 (hT.below h1) (hT10.below h1)
        by_cases h0 : (safeD bits vals seed z).1 = 0
        · have hfound := safeD_found h0
          have hrep := @safeD_replay bits vals seed z
          have hcap := safeD_cap h0
          obtain ⟨d, hd⟩ : ∃ d, d = safeD bits vals seed z := ⟨_, rfl⟩
          rw [← hd] at hfound hrep h0 KP0 hcap
          clear hd
          obtain ⟨a1, a2, a3, _, _, _, _, _, a9⟩ := hfound
          obtain ⟨p, hp⟩ : ∃ p, p = d.2.1 := ⟨_, rfl⟩
          obtain ⟨z2, hz2⟩ : ∃ z2, z2 = d.2.2 := ⟨_, rfl⟩
          have KP := Lib.hid (fun wq (h1' : Below w.heap.size w wq) => (KP0 wq h1').mono (R' := fun e w' => (∃ g, e = .returned (.tuple #[.string (B p), .agg #[.slice (some ⟨g, 0, none⟩) n n, .string seed, .int .i64 z2], .int .i64 0])) ∧ Below wq.heap.size wq w') (by
            rintro e w' ⟨⟨_, g, rfl, _⟩ | ⟨h, _⟩, hb⟩
            · exact ⟨⟨g, by rw [hp, hz2]⟩, hb⟩
            · exact absurd h0 h))
          rw [← hp, ← hz2] at hrep
          rw [← hz2] at a9 hcap
          obtain ⟨K, hK⟩ : ∃ K : Nat, z2 - z = (K : Nat) := ⟨(z2 - z).toNat, by omega⟩
          obtain ⟨z0, z1, _⟩ := good_parts a3
          by_cases h4 : K ≤ 400
          · obtain ⟨hL, hK1, hok⟩ := hrep h0 hK h4
            obtain ⟨k, hk⟩ : ∃ k, k = bits.toNat - 2 := ⟨_, rfl⟩
            rw [← hk] at hL hok
            obtain ⟨M, hM⟩ : ∃ M, M = 2 ^ k := ⟨_, rfl⟩
            rw [← hM] at hL hok
            have hM0 : 1 ≤ M := by rw [hM]; exact Nat.pow_pos (by decide)
            have hM64 : M < 18446744073709551616 := by rw [hM]; exact Nat.lt_of_le_of_lt (Nat.pow_le_pow_right (n := 2) (by decide) (by omega : k ≤ 58)) (by decide)
            have q1 : bits - 2 = (k : Int) := by omega
            have q2 : IntKind.u64.wrap ((2 : Int) ^ k) = (M : Int) := by
              have : ((2 : Int) ^ k) = (M : Int) := by rw [hM]; exact (Int.natCast_pow 2 k).symm
              rw [this, IntKind.wrap_u64]
              omega
            have k64 : k < 64 := by omega
            have kw : Value.int .i64 (wrap64 (k : Int)) = .int .i64 (k : Int) := by rw [IntWalk.wrap64_in _ (by omega)]
            have kv : Value.int .i64 (wrap64 (K : Int)) = .int .i64 (K : Int) := by rw [IntWalk.wrap64_in _ (by omega)]
            have p2 : decide ((400 : Int) < (K : Int)) = false := by rw [decide_eq_false_iff_not]; omega
            have p3 : ((K : Int) == (K : Int)) = true := by simp
            have p4 : ((B p).toList == (B p).toList) = true := by simp
            obtain ⟨L, hLL⟩ : ∃ L, L = (coinsL vals seed M z K).map B := ⟨_, rfl⟩
            have hLlen : L.length = K := by rw [hLL, List.length_map, coinsL_len]
            have KM := fun wq (h1 : Below w.heap.size w wq) => coins_Many vals A n c seed z M K wq hn hm1 ((hsl.below h1).more h1.size) a3 hM0 hM64 hs1 (hT10.below h1) h4 hok
            rw [← hLL] at hL KM
            have e3 : IntKind.i64.wrap (K : Int) = (K : Int) := by rw [IntKind.wrap_i64]; omega
            rw [← e3] at KM
            have KM := Lib.hid KM
            have qN : IntKind.u64.wrap (2 ^ min (IntKind.u64.wrap (IntKind.i64.wrap (k : Int))).toNat 64) = (M : Int) := by
              have e1 : IntKind.i64.wrap (k : Int) = (k : Int) := by rw [IntKind.wrap_i64]; omega
              have e2 : IntKind.u64.wrap (k : Int) = (k : Int) := by rw [IntKind.wrap_u64]; omega
              rw [e1, e2, show min ((k : Int)).toNat 64 = k by omega]
              exact q2
            have KN := Lib.hid (fun wq => (show Calls Tryd.prog 15 #[.int .u64 (IntKind.u64.wrap (2 ^ min (IntKind.u64.wrap (IntKind.i64.wrap (k : Int))).toNat 64))] wq fun e w' => e = .returned (.string (B M)) ∧ Below wq.heap.size wq w' from by rw [qN]; exact law11_num M wq hM64))
            have KQ := Lib.hid (fun (A' : Option Addr) (c' : Nat) wq (h1 : Below w.heap.size w wq) (h2 : SLs wq wq.heap.size A' L) => (params_SafePrime bits L A' K c' ⟨#[]⟩ 0 wq hLlen (by omega) h2 (by decide) (hT.below h1) (hT10.below h1)).mono (R' := fun e w' => (∃ g, e = .returned (.tuple #[.string (B p), .agg #[.slice (some ⟨g, 0, none⟩) K K, .string ⟨#[]⟩, .int .i64 K], .int .i64 0])) ∧ Below wq.heap.size wq w') (by
              have hL2 : safeD bits L ⟨#[]⟩ 0 = (0, p, (K : Int)) := hL
              rw [hL2]
              rintro e w' ⟨⟨_, g, rfl, _⟩ | ⟨h, _⟩, hb⟩
              · exact ⟨⟨g, rfl⟩, hb⟩
              · exact absurd rfl h))
            have KV := Lib.hid (fun (ad : Addr) (c' : Nat) wq (h2 : SLs wq wq.heap.size (some ad) L) => coins_Values L ad K c' wq hLlen (by omega) h2)
            have HNE := Lib.hid (show L ≠ [] by intro e; rw [e] at hLlen; simp at hLlen; omega)
            have HKK := Lib.hid hK
            clear hn hm hsl hT hT10 hsm hf h3 KP0 h0 hrep a1 a2 a3 a9 hp hz2 z0 z1 h4 hL hK1 hok hk hM hM0 hM64 hLL hLlen hm1 hs1 qN e3 hcap
            go_enter Tryd.func4, Tryd.ntmps4
            go_wp2_with (first
              | (go_at_call 7; (with_reducible refine (KSM.out _).mono ?_); rintro e w0 ⟨rfl, rfl⟩)
              | (go_at_call 8; (with_reducible refine (KFW.out _ HA0.out.bel).mono ?_); rintro e w1 ⟨rfl, hb1⟩
                 have HA1 := Lib.hid (HA0.out.next hb1)
                 obtain ⟨t0, t1, t2, hlt, _⟩ := HA1.out
                 clear hb1)
              | (go_at_call 11; (with_reducible refine (KP.out _ HA1.out.bel).mono ?_); rintro e w2 ⟨⟨g, rfl⟩, hb2⟩
                 have HA2 := Lib.hid (HA1.out.next hb2)
                 have HC := Lib.hid (BoxC.made (A2 := some ⟨g, 0, none⟩) (n2 := n) (c2 := n) (sd := seed) (z2 := z2) HA2.out)
                 obtain ⟨t0, t1, t2, y, _⟩ := HC.out
                 clear hb2))
            have HC := HC
            have ne3 : w2.heap.size + 1 ≠ w.heap.size := by have := cell_in t0; have := HA2.out.lt; omega
            have ne4 : w2.heap.size + 1 ≠ w2.heap.size := Nat.succ_ne_self _
            go_region_held3 (fun w' => w'.cell? ⟨w.heap.size, 0, none⟩ = some (.slice A n c) ∧ w'.cell? ⟨w.heap.size, 1, none⟩ = some (.string seed) ∧ w'.cell? ⟨w.heap.size, 2, none⟩ = some (.int .i64 z) ∧ w'.cell? ⟨w2.heap.size, 2, none⟩ = some (.int .i64 z2))
              (first | (with_reducible exact ⟨t0, t1, t2, y⟩) | (with_reducible exact ⟨keep3 ne1 t0, keep3 ne1 t1, keep3 ne1 t2, keep3 ne2 y⟩) | (with_reducible exact ⟨hop3 ne1 t0, hop3 ne1 t1, hop3 ne1 t2, hop3 ne2 y⟩) | (with_reducible exact ⟨keep3 ne3 t0, keep3 ne3 t1, keep3 ne3 t2, keep3 ne4 y⟩) | (with_reducible exact ⟨hop3 ne3 t0, hop3 ne3 t1, hop3 ne3 t2, hop3 ne4 y⟩) | go_keep)
              (first
                | (go_at_call 15; (with_reducible refine (KN.out _).mono ?_); rintro e w3 ⟨rfl, hb3⟩
                   (first | (with_reducible (have hq := NewT.made2 hb3)) | (with_reducible (have hq := NewT.made3 hb3)) | skip)
                   (first | (obtain ⟨n0, n1, n2, m0, m1, m2⟩ := hq) | skip)
                   have HC := (by first | (with_reducible exact Lib.hid (HC.out.next hb3)) | (with_reducible exact Lib.hid ((HC.out.next (Below.refl _ _).drew).next hb3)) | (with_reducible exact Lib.hid ((HC.out.next ((Below.refl _ _).alloc (Nat.le_refl _) _)).next hb3)) | (with_reducible exact Lib.hid ((HC.out.next (((Below.refl _ _).alloc (Nat.le_refl _) _).drew)).next hb3)) | (with_reducible exact Lib.hid (((HC.out.next (Below.refl _ _).drew).next ((Below.refl _ _).alloc (Nat.le_refl _) _)).next hb3)) : Hid (BoxC w w3 A n c seed z w2.heap.size z2))
                   obtain ⟨t0, t1, t2, y, _⟩ := HC.out
                   have ne1 : w3.heap.size ≠ w.heap.size := Nat.ne_of_gt (cell_in t0)
                   have lt3 : w.heap.size ≤ w3.heap.size := Nat.le_of_lt (cell_in t0)
                   have ne2 : w3.heap.size ≠ w2.heap.size := Nat.ne_of_gt (cell_in y)
                   clear hb3)
                | (go_at_call 14; (with_reducible refine (KM.out _ (by first | (with_reducible exact HC.out.bel) | (with_reducible exact (HC.out.next (Below.refl _ _).drew).bel) | (with_reducible exact (HC.out.next ((Below.refl _ _).alloc (Nat.le_refl _) _)).bel))).mono ?_); rintro e w4 ⟨⟨Al, cl, At, ct, sdt, zt, nt, rfl, hsl, hfr⟩, hb4⟩
                   (first | (with_reducible (have hp := NewT.made hb4)) | (have hp := NewT.next ⟨n0, n1, n2, m0, m1, m2⟩ hb4) | skip)
                   (first | (obtain ⟨p0, p1, p2, s0, s1, s2⟩ := hp) | skip)
                   have HC := (by first | (with_reducible exact Lib.hid (HC.out.next hb4)) | (with_reducible exact Lib.hid ((HC.out.next (Below.refl _ _).drew).next hb4)) | (with_reducible exact Lib.hid ((HC.out.next ((Below.refl _ _).alloc (Nat.le_refl _) _)).next hb4)) | (with_reducible exact Lib.hid ((HC.out.next (((Below.refl _ _).alloc (Nat.le_refl _) _).drew)).next hb4)) | (with_reducible exact Lib.hid (((HC.out.next (Below.refl _ _).drew).next ((Below.refl _ _).alloc (Nat.le_refl _) _)).next hb4)) : Hid (BoxC w w4 A n c seed z w2.heap.size z2))
                   obtain ⟨t0, t1, t2, y, _⟩ := HC.out
                   have HSL := Lib.hid hsl
                   obtain ⟨ad, rfl, _⟩ := hsl HNE.out
                   have HFR := Lib.hid (hfr ad rfl)
                   clear hb4 hsl hfr))
            all_goals
              first
                | (refine world_on (fun wx => BoxC w wx A n c seed z w2.heap.size z2 ∧ SLs wx wx.heap.size (some ad) L) (And.intro (HC.out.next ((Below.refl _ _).alloc (Nat.le_refl _) _)) (HSL.out.to ((Below.refl _ _).alloc (Nat.le_refl _) _))) ?_)
                | (have hb : w3.heap.size ≠ ad.block := by (have hh := HFR.out; have e := World.size_alloc w3 (.cells #[.slice none 0 0, .string ⟨#[]⟩, .int .i64 0] 24); omega)
                   refine world_on (fun wx => BoxC w wx A n c seed z w2.heap.size z2 ∧ SLs wx wx.heap.size (some ad) L) (And.intro (HC.out.far3 ne1 ne2 lt3) (SLs.farW HSL.out hb)) ?_)
                | (have hb : w2.heap.size + 1 ≠ ad.block := by (have hh := HFR.out; have e := cell_in n0; simp at e; omega)
                   refine world_on (fun wx => BoxC w wx A n c seed z w2.heap.size z2 ∧ SLs wx wx.heap.size (some ad) L) (And.intro (HC.out.far3 ne3 ne4 (by have := HA2.out.lt; omega)) (SLs.farW HSL.out hb)) ?_)
              rintro wx ⟨hx, hsx⟩
              have HCx := Lib.hid hx
              have HSx := Lib.hid hsx
              clear hx hsx HC HSL t0 t1 t2 y
              go_wp2_with (first
                | (go_at_call 16; (with_reducible refine (KV.out _ _ _ HSx.out).mono ?_); rintro e w6 ⟨⟨A6, c6, rfl, hs6⟩, hb6⟩
                   have HC6 := Lib.hid (HCx.out.next hb6)
                   have HS6 := Lib.hid hs6
                   clear hb6 hs6)
                | (go_at_call 11; (with_reducible refine (KQ.out _ _ _ HC6.out.bel HS6.out).mono ?_); rintro e w7 ⟨⟨g7, rfl⟩, hb7⟩
                   have HC7 := Lib.hid ((HC6.out.next hb7).next ((Below.refl _ _).alloc (Nat.le_refl _) (.cells #[.slice (some ⟨g7, 0, none⟩) K K, .string ⟨#[]⟩, .int .i64 K] 24)))
                   have H12 := Lib.hid (show (w7.alloc (.cells #[.slice (some ⟨g7, 0, none⟩) K K, .string ⟨#[]⟩, .int .i64 K] 24)).cell? ⟨w7.heap.size, 2, none⟩ = some (.int .i64 K) by simp [go_sem])
                   clear hb7)
                | (go_at_call 9; (with_reducible refine (KAW.out _ HC7.out.bel).mono ?_); rintro e w8 ⟨rfl, hb8⟩
                   have HC8 := Lib.hid (HC7.out.next hb8)
                   obtain ⟨t0, t1, t2, y, _⟩ := HC8.out
                   have y12 := (hb8.cell (cell_in H12.out)).trans H12.out
                   clear hb8))
              go_ret
              exact ⟨rfl, HC8.out.bel⟩
          · have p2 : decide ((400 : Int) < (K : Int)) = true := by rw [decide_eq_true_eq]; omega
            have hKb : z2 - z ≤ 65536 := hcap
            have kv : Value.int .i64 (wrap64 (K : Int)) = .int .i64 (K : Int) := by rw [IntWalk.wrap64_in _ (by omega)]
            have HKK := Lib.hid hK
            clear hn hm hsl hT hT10 hsm hf h3 KP0 h0 hrep a1 a2 a3 a9 hp hz2 z0 z1 h4 hm1 hs1 hKb hcap
            go_enter Tryd.func4, Tryd.ntmps4
            go_wp2_with (first
              | (go_at_call 7; (with_reducible refine (KSM.out _).mono ?_); rintro e w0 ⟨rfl, rfl⟩)
              | (go_at_call 8; (with_reducible refine (KFW.out _ HA0.out.bel).mono ?_); rintro e w1 ⟨rfl, hb1⟩
                 have HA1 := Lib.hid (HA0.out.next hb1)
                 obtain ⟨t0, t1, t2, hlt, _⟩ := HA1.out
                 clear hb1)
              | (go_at_call 11; (with_reducible refine (KP.out _ HA1.out.bel).mono ?_); rintro e w2 ⟨⟨g, rfl⟩, hb2⟩
                 have HA2 := Lib.hid (HA1.out.next hb2)
                 have HC := Lib.hid (BoxC.made (A2 := some ⟨g, 0, none⟩) (n2 := n) (c2 := n) (sd := seed) (z2 := z2) HA2.out)
                 obtain ⟨t0, t1, t2, y, _⟩ := HC.out
                 clear hb2)
              | (go_at_call 9; (with_reducible refine (KAW.out _ HC.out.bel).mono ?_); rintro e w5 ⟨rfl, hb5⟩
                 have HA6 := Lib.hid (HC.out.next hb5)
                 clear hb5))
            go_ret
            exact ⟨rfl, HA6.out.bel⟩
        · obtain ⟨er, her⟩ : ∃ er, er = (safeD bits vals seed z).1 := ⟨_, rfl⟩
          have ne1 : (er == 0) = false := by rw [her, beq_eq_false_iff_ne]; exact h0
          have ne2 : (er != 0) = true := by rw [bne, ne1]; rfl
          have KP := Lib.hid (fun wq (h1' : Below w.heap.size w wq) => (KP0 wq h1').mono (R' := fun e w' => e = .returned (.tuple #[.string ⟨#[]⟩, .agg #[.slice none 0 0, .string ⟨#[]⟩, .int .i64 0], .int .i64 er]) ∧ Below wq.heap.size wq w') (by
            rintro e w' ⟨⟨h, _⟩ | ⟨_, h⟩, hb⟩
            · exact absurd h h0
            · rw [her]; exact ⟨h, hb⟩))
          clear hn hm hsl hT hT10 hsm hf h3 KP0 h0 her hm1 hs1
          go_enter Tryd.func4, Tryd.ntmps4
          go_wp2_with (first
            | (go_at_call 7; (with_reducible refine (KSM.out _).mono ?_); rintro e w0 ⟨rfl, rfl⟩)
            | (go_at_call 8; (with_reducible refine (KFW.out _ HA0.out.bel).mono ?_); rintro e w1 ⟨rfl, hb1⟩
               have HA1 := Lib.hid (HA0.out.next hb1)
               obtain ⟨t0, t1, t2, hlt, _⟩ := HA1.out
               clear hb1)
            | (go_at_call 11; (with_reducible refine (KP.out _ HA1.out.bel).mono ?_); rintro e w2 ⟨rfl, hb2⟩
               have HA2 := Lib.hid (HA1.out.next hb2)
               have HC := Lib.hid (BoxC.made (A2 := none) (n2 := 0) (c2 := 0) (sd := ⟨#[]⟩) (z2 := 0) HA2.out)
               clear hb2)
            | (go_at_call 9; (with_reducible refine (KAW.out _ HC.out.bel).mono ?_); rintro e w5 ⟨rfl, hb5⟩
               have HA6 := Lib.hid (HC.out.next hb5)
               clear hb5))
          go_ret
          exact ⟨rfl, HA6.out.bel⟩
      · have KFW := Lib.hid (fun wq (h1 : Below w.heap.size w wq) => few_is vals A n c wq.heap.size seed z wq hn hm ((hsl.below h1).more h1.size) (Nat.le_refl _) false ⟨fun h => (by cases h), fun h => absurd h hf⟩)
        clear hn hm hsl hT hT10 hsm hf h3
        go_enter Tryd.func4, Tryd.ntmps4
        go_wp2_with (first
          | (go_at_call 7; (with_reducible refine (KSM.out _).mono ?_); rintro e w0 ⟨rfl, rfl⟩)
          | (go_at_call 8; (with_reducible refine (KFW.out _ HA0.out.bel).mono ?_); rintro e w1 ⟨rfl, hb1⟩
             have HA1 := Lib.hid (HA0.out.next hb1)
             obtain ⟨t0, t1, t2, hlt, _⟩ := HA1.out
             clear hb1)
          | (go_at_call 9; (with_reducible refine (KAW.out _ HA1.out.bel).mono ?_); rintro e w5 ⟨rfl, hb5⟩
             have HA6 := Lib.hid (HA1.out.next hb5)
             clear hb5))
        go_ret
        exact ⟨rfl, HA6.out.bel⟩

end Go.Proofs.YtfggpgiinihflaaDoor
