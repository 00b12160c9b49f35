/- The law ParamsWhole: it returns true for every number of bits and every tape. -/
import Derived.Test.YtfggpgiinihflaaDoorZM4
namespace Go.Proofs.YtfggpgiinihflaaDoor
open Go.RowKit
set_option maxRecDepth 100000
set_option linter.unusedVariables false
set_option maxHeartbeats 4000000

theorem wholeL_ok {bits : Int} {vals : List ByteArray} {seed : ByteArray} {p : Nat} : ∀ (r : Nat) (z : Int), (wholeL bits vals seed p r z).1 = 0 →
    ∃ z', z ≤ z' ∧ wholeL bits vals seed p r z = safeD bits vals seed z' ∧ (safeD bits vals seed z').1 = 0 ∧ (safeD bits vals seed z').2.1 ≠ p := by
  intro r
  induction r with
  | zero => intro z h; cases h
  | succ r ih =>
    intro z h
    by_cases h0 : (safeD bits vals seed z).1 = 0
    · by_cases hp : (safeD bits vals seed z).2.1 = p
      · rw [wholeL_on h0 hp] at h ⊢
        obtain ⟨z', h1, h2, h3, h4⟩ := ih _ h
        have hz := (safeD_found h0).2.2.2.2.2.2.2.2
        exact ⟨z', by omega, h2, h3, h4⟩
      · rw [wholeL_hit h0 hp]
        exact ⟨z, Int.le_refl _, rfl, h0, hp⟩
    · rw [wholeL_err h0] at h
      exact absurd h h0
theorem smallS_B {n : Nat} (hn : n < 18446744073709551616) : smallS (B n) = (n, 0) := by unfold smallS; rw [valid_B (Nat.lt_trans hn (by decide)), if_pos rfl, if_pos (B_size_le'.2 (Nat.lt_of_lt_of_le hn (by decide))), num_B]
theorem safe_B {n : Nat} (hn : n < 18446744073709551616) (h1 : isS n = true) (h2 : isS (n / 2) = true) (ho : n % 2 = 1) : safeS (B n) = (true, 0) := by
  unfold safeS
  rw [smallS_B hn]
  show (decide ((0 : Int) = 0) && (isS n && isS ((n - 1) / 2)), (0 : Int)) = _
  rw [show (n - 1) / 2 = n / 2 by omega, h1, h2]
  rfl
theorem check_ok {p q : Nat} (hp : p < 4294967296) (hq : q < 4294967296) (p4 : 4 ≤ p) (q4 : 4 ≤ q) (p1 : isS p = true) (p2 : isS (p / 2) = true) (po : p % 2 = 1) (q1 : isS q = true) (q2 : isS (q / 2) = true) (qo : q % 2 = 1) (hne : q ≠ p) :
    checkS (B (p * q)) ⟨#[]⟩ (B p) (B q) = 0 := by
  have hpq : p * q ≤ 4294967295 * 4294967295 := Nat.mul_le_mul (by omega) (by omega)
  have hpq2 : 4 * 4 ≤ p * q := Nat.mul_le_mul p4 q4
  have hpo : p * q % 2 = 1 := by rw [Nat.mul_mod, po, qo]
  have hl : p * q < lim := Nat.lt_of_le_of_lt hpq (by decide)
  have hm : natMul (B p) (B q) = (B (p * q), 0) := by
    unfold natMul fitted; rw [valid_B (Nat.lt_trans hp (by decide)), valid_B (Nat.lt_trans hq (by decide)), num_B, num_B, if_pos hl]; rfl
  have hg : goodS (B (p * q)) ⟨#[]⟩ = true := by
    unfold goodS
    have e1 : natBit (B (p * q)) 0 = true := by
      unfold natBit
      rw [valid_B hl, num_B, Nat.pow_zero, Nat.div_one, hpo]
      rfl
    have e2 : 0 < natCmp (B (p * q)) (B 8) := by
      rw [natCmp_BB hl (by decide)]
      unfold cmpN
      split
      · omega
      · split <;> omega
    have e3 : (⟨#[]⟩ : ByteArray).toList.isEmpty = true := by decide +kernel
    rw [valid_B hl, e1, decide_eq_true e2, e3]
    rfl
  have ht : trapS (B p) (B q) = 0 := by
    unfold trapS
    rw [safe_B (Nat.lt_trans hp (by decide)) p1 p2 po, safe_B (Nat.lt_trans hq (by decide)) q1 q2 qo]
    have : ((B p).toList == (B q).toList) = false := by rw [B_beq]; exact decide_eq_false fun e => hne e.symm
    rw [this]
    rfl
  unfold checkS
  rw [valid_B hl, valid_B (Nat.lt_trans hp (by decide)), valid_B (Nat.lt_trans hq (by decide)), hg, hm, ht]
  have : ((B (p * q)).toList == (B (p * q)).toList) = true := by simp
  rw [this]
  rfl
theorem wholeD_ok {bits : Int} {vals : List ByteArray} {seed : ByteArray} {z : Int} (h : (wholeD bits vals seed z).1 = 0) :
    ∃ p q z2, wholeD bits vals seed z = (0, p, q, z2) ∧ p < 4294967296 ∧ q < 4294967296 ∧ checkS (B (p * q)) ⟨#[]⟩ (B p) (B q) = 0 ∧ q ≠ p ∧ z + 1 < z2 := by
  unfold wholeD at h ⊢
  split at h
  · rename_i hg
    rw [if_pos hg]
    split at h
    · rename_i hb
      rw [if_pos hb]
      split at h
      · rename_i h0
        rw [if_pos h0]
        split at h
        · rename_i h1
          rw [if_pos h1]
          obtain ⟨z', hz', e, hs, hne⟩ := wholeL_ok _ _ h1
          obtain ⟨a1, a2, a3, a4, a5, a6, a7, a8, a9⟩ := safeD_found h0
          obtain ⟨c1, c2, c3, c4, c5, c6, c7, c8, c9⟩ := safeD_found hs
          rw [e]
          have hp32 : ∀ x, x < 2 ^ bits.toNat → x < 4294967296 := fun x hx => Nat.lt_of_lt_of_le hx (Nat.pow_le_pow_right (by decide) (by omega : bits.toNat ≤ 32))
          have h4 : ∀ x, 2 ^ (bits.toNat - 1) ≤ x → 4 ≤ x := fun x hx => Nat.le_trans (Nat.pow_le_pow_right (n := 2) (by decide) (by omega : 2 ≤ bits.toNat - 1)) hx
          refine ⟨_, _, _, rfl, hp32 _ a5, hp32 _ c5, check_ok (hp32 _ a5) (hp32 _ c5) (h4 _ a4) (h4 _ c4) a6 a7 a8 c6 c7 c8 hne, hne, by { show z + 1 < (safeD bits vals seed z').2.2; omega }⟩
        · rename_i h1
          exact absurd h h1
      · rename_i h0
        exact absurd h h0
    · cases h
  · cases h
theorem wholeD_good {bits : Int} {vals : List ByteArray} {seed : ByteArray} {z : Int} (h : (wholeD bits vals seed z).1 = 0) : 0 ≤ z ∧ z ≤ 2147483647 := by
  cases hg : goodT vals z
  · unfold wholeD at h
    rw [hg] at h
    cases h
  · exact ⟨(good_parts hg).1, (good_parts hg).2.1⟩
/-- The three boxes of Whole's results, made in one world. -/
structure BoxR (W : World) (m o p q : ByteArray) (z : Int) (wx : World) : Prop where
  x0 : wx.cell? ⟨W.heap.size, 0, none⟩ = some (.string m)
  x1 : wx.cell? ⟨W.heap.size, 1, none⟩ = some (.string o)
  y0 : wx.cell? ⟨W.heap.size + 1, 0, none⟩ = some (.string p)
  y1 : wx.cell? ⟨W.heap.size + 1, 1, none⟩ = some (.string q)
  y2 : wx.cell? ⟨W.heap.size + 1 + 1, 2, none⟩ = some (.int .i64 z)
  l : W.heap.size + 1 + 1 < wx.heap.size
theorem BoxR.made (W : World) (m o p q seed : ByteArray) (A : Option Addr) (n c : Nat) (z : Int) : BoxR W m o p q z (((W.alloc (.cells #[.string m, .string o] 43)).alloc (.cells #[.string p, .string q] 45)).alloc (.cells #[.slice A n c, .string seed, .int .i64 z] 24)) :=
  ⟨by simp [go_sem], by simp [go_sem], by simp [go_sem], by simp [go_sem], by simp [go_sem], by simp⟩
theorem BoxR.next {W wx wy : World} {m o p q : ByteArray} {z : Int} (h : BoxR W m o p q z wx) (hb : Below wx.heap.size wx wy) : BoxR W m o p q z wy :=
  have l := h.l
  ⟨(hb.cell (p := ⟨W.heap.size, 0, none⟩) (by show W.heap.size < _; omega)).trans h.x0, (hb.cell (p := ⟨W.heap.size, 1, none⟩) (by show W.heap.size < _; omega)).trans h.x1, (hb.cell (p := ⟨W.heap.size + 1, 0, none⟩) (by show W.heap.size + 1 < _; omega)).trans h.y0, (hb.cell (p := ⟨W.heap.size + 1, 1, none⟩) (by show W.heap.size + 1 < _; omega)).trans h.y1,
    (hb.cell (p := ⟨W.heap.size + 1 + 1, 2, none⟩) (by show W.heap.size + 1 + 1 < _; omega)).trans h.y2, Nat.lt_of_lt_of_le h.l hb.size⟩
theorem law_whole (bits : Int) (vals : List ByteArray) (A : Option Addr) (n c : Nat) (seed : ByteArray) (z : Int) (w : World) (hn : vals.length = n) (hm : n ≤ maxLen) (hsl : SLs w w.heap.size A vals) (hT : Tab w) (hT10 : Tab10 w) :
    Calls Tryd.prog 5 #[.int .i64 bits, .agg #[.slice A n c, .string seed, .int .i64 z]] w fun e w' => e = .returned (.bool true) ∧ Below w.heap.size w w' := by
  have KAW := Lib.hid (fun wq (h1 : Below w.heap.size w wq) => law11_awake wq (hT.below h1) (hT10.below h1))
  have HA0 := Lib.hid (BoxT.start w A n c seed z)
  have KSM := Lib.hid (fun wq => law11_small bits wq)
  cases hsm : smallT bits
  · rw [hsm] at KSM
    clear hn hm hsl hT hT10 hsm
    go_enter Tryd.func5, Tryd.ntmps5
    go_wp2_with (first
      | (go_at_call 7; (with_reducible refine (KSM.out _).mono ?_); rintro e w0 ⟨rfl, rfl⟩)
      | (go_at_call 9; (with_reducible refine (KAW.out _ HA0.out.bel).mono ?_); rintro e w5 ⟨rfl, hb5⟩
         have HA6 := Lib.hid (HA0.out.next hb5)
         clear hb5))
    go_ret
    exact ⟨rfl, HA6.out.bel⟩
  · rw [hsm] at KSM
    by_cases hf : FewP vals seed z
    · have KFW := Lib.hid (fun wq (h1 : Below w.heap.size w wq) => few_is vals A n c wq.heap.size seed z wq hn hm ((hsl.below h1).more h1.size) (Nat.le_refl _) true ⟨fun _ => hf, fun _ => rfl⟩)
      have hm1 : n ≤ 1000 := by have := hf.1; omega
      have hs1 : seed.size ≤ 100000 := by have := hf.2.2.1; omega
      have KW0 := fun wq (h1 : Below w.heap.size w wq) => params_Whole bits vals A n c seed z wq hn hm1 ((hsl.below h1).more h1.size) hs1 (hT.below h1) (hT10.below h1)
      by_cases h0 : (wholeD bits vals seed z).1 = 0
      · obtain ⟨z0, z1⟩ := wholeD_good h0
        obtain ⟨p, q, z2, e, hp, hq, hck, hne, hz⟩ := wholeD_ok h0
        have KW := Lib.hid (fun wq (h1' : Below w.heap.size w wq) => (KW0 wq h1').mono (R' := fun e w' => (∃ g, e = .returned (.tuple #[.agg #[.string (B (p * q)), .string ⟨#[]⟩], .agg #[.string (B p), .string (B q)], .agg #[.slice (some ⟨g, 0, none⟩) n n, .string seed, .int .i64 z2], .int .i64 0])) ∧ Below wq.heap.size wq w') (by
          rw [e]
          rintro e w' ⟨⟨_, g, rfl⟩ | ⟨h, _⟩, hb⟩
          · exact ⟨⟨g, rfl⟩, hb⟩
          · exact absurd rfl h))
        have hsz : (B (p * q)).size ≤ 8 := B_size_le'.2 (by
          have : p * q ≤ 4294967295 * 4294967295 := Nat.mul_le_mul (by omega) (by omega)
          exact Nat.lt_of_le_of_lt this (by decide))
        have KCK := Lib.hid (fun wq (h1 : Below w.heap.size w wq) => rsagroup_Check (B (p * q)) ⟨#[]⟩ (B p) (B q) wq hsz (hT.below h1))
        rw [hck] at KCK
        have p1 : ((B p).toList == (B q).toList) = false := by rw [B_beq]; exact decide_eq_false fun e => hne e.symm
        have p2 : Value.int .i64 (wrap64 (z + 1)) = .int .i64 (z + 1) := by rw [IntWalk.wrap64_in _ (by omega)]
        have p3 : decide (z + 1 < z2) = true := decide_eq_true hz
        clear hn hm hsl hT hT10 hsm hf KW0 h0 e hp hq hck hne hz hsz hm1 hs1 z0 z1
        go_enter Tryd.func5, Tryd.ntmps5
        go_wp2_with (first
          | (go_at_call 7; (with_reducible refine (KSM.out _).mono ?_); rintro e w0 ⟨rfl, rfl⟩)
          | (go_at_call 8; (with_reducible refine (KFW.out _ HA0.out.bel).mono ?_); rintro e w1 ⟨rfl, hb1⟩
             have HA1 := Lib.hid (HA0.out.next hb1)
             obtain ⟨t0, t1, t2, hlt, _⟩ := HA1.out
             clear hb1)
          | (go_at_call 17; (with_reducible refine (KW.out _ HA1.out.bel).mono ?_); rintro e w2 ⟨⟨g, rfl⟩, hb2⟩
             have HA2 := Lib.hid (HA1.out.next hb2)
             have HA3 := Lib.hid (((HA2.out.alloc (.cells #[.string (B (p * q)), .string ⟨#[]⟩] 43)).alloc (.cells #[.string (B p), .string (B q)] 45)).alloc (.cells #[.slice (some ⟨g, 0, none⟩) n n, .string seed, .int .i64 z2] 24))
             have HR3 := Lib.hid (BoxR.made w2 (B (p * q)) ⟨#[]⟩ (B p) (B q) seed (some ⟨g, 0, none⟩) n n z2)
             clear hb2)
          | (go_at_call 9; (with_reducible refine (KAW.out _ HA3.out.bel).mono ?_); rintro e w5 ⟨rfl, hb5⟩
             have HA6 := Lib.hid (HA3.out.next hb5)
             obtain ⟨t0, t1, t2, hlt, _⟩ := HA6.out
             have HR6 := Lib.hid (HR3.out.next hb5)
             obtain ⟨x0, x1, y0, y1, y2, _⟩ := HR6.out
             clear hb5)
          | (go_at_call 18; (with_reducible refine (KCK.out _ HA6.out.bel).mono ?_); rintro e w7 ⟨rfl, hb7⟩
             have HA7 := Lib.hid (HA6.out.next hb7)
             obtain ⟨t0, t1, t2, hlt, _⟩ := HA7.out
             obtain ⟨x0, x1, y0, y1, y2, _⟩ := (HR6.out.next hb7)
             clear hb7))
        go_ret
        exact ⟨rfl, HA7.out.bel⟩
      · obtain ⟨er, her⟩ : ∃ er, er = (wholeD bits vals seed z).1 := ⟨_, rfl⟩
        have ne1 : (er == 0) = false := by rw [her, beq_eq_false_iff_ne]; exact h0
        have KW := Lib.hid (fun wq (h1' : Below w.heap.size w wq) => (KW0 wq h1').mono (R' := fun e w' => e = .returned (.tuple #[.agg #[.string ⟨#[]⟩, .string ⟨#[]⟩], .agg #[.string ⟨#[]⟩, .string ⟨#[]⟩], .agg #[.slice none 0 0, .string ⟨#[]⟩, .int .i64 0], .int .i64 er]) ∧ Below wq.heap.size wq w') (by
          rintro e w' ⟨⟨h, _⟩ | ⟨_, h⟩, hb⟩
          · exact absurd h h0
          · rw [her]; exact ⟨h, hb⟩))
        clear hn hm hsl hT hT10 hsm hf KW0 h0 her hm1 hs1
        go_enter Tryd.func5, Tryd.ntmps5
        go_wp2_with (first
          | (go_at_call 7; (with_reducible refine (KSM.out _).mono ?_); rintro e w0 ⟨rfl, rfl⟩)
          | (go_at_call 8; (with_reducible refine (KFW.out _ HA0.out.bel).mono ?_); rintro e w1 ⟨rfl, hb1⟩
             have HA1 := Lib.hid (HA0.out.next hb1)
             obtain ⟨t0, t1, t2, hlt, _⟩ := HA1.out
             clear hb1)
          | (go_at_call 17; (with_reducible refine (KW.out _ HA1.out.bel).mono ?_); rintro e w2 ⟨rfl, hb2⟩
             have HA2 := Lib.hid (HA1.out.next hb2)
             have HA3 := Lib.hid (((HA2.out.alloc (.cells #[.string ⟨#[]⟩, .string ⟨#[]⟩] 43)).alloc (.cells #[.string ⟨#[]⟩, .string ⟨#[]⟩] 45)).alloc (.cells #[.slice none 0 0, .string ⟨#[]⟩, .int .i64 0] 24))
             have HR3 := Lib.hid (BoxR.made w2 ⟨#[]⟩ ⟨#[]⟩ ⟨#[]⟩ ⟨#[]⟩ ⟨#[]⟩ none 0 0 0)
             clear hb2)
          | (go_at_call 9; (with_reducible refine (KAW.out _ HA3.out.bel).mono ?_); rintro e w5 ⟨rfl, hb5⟩
             have HA6 := Lib.hid (HA3.out.next hb5)
             obtain ⟨x0, x1, y0, y1, y2, _⟩ := (HR3.out.next hb5)
             clear hb5))
        go_ret
        exact ⟨rfl, HA6.out.bel⟩
    · have KFW := Lib.hid (fun wq (h1 : Below w.heap.size w wq) => few_is vals A n c wq.heap.size seed z wq hn hm ((hsl.below h1).more h1.size) (Nat.le_refl _) false ⟨fun h => (by cases h), fun h => absurd h hf⟩)
      clear hn hm hsl hT hT10 hsm hf
      go_enter Tryd.func5, Tryd.ntmps5
      go_wp2_with (first
        | (go_at_call 7; (with_reducible refine (KSM.out _).mono ?_); rintro e w0 ⟨rfl, rfl⟩)
        | (go_at_call 8; (with_reducible refine (KFW.out _ HA0.out.bel).mono ?_); rintro e w1 ⟨rfl, hb1⟩
           have HA1 := Lib.hid (HA0.out.next hb1)
           clear hb1)
        | (go_at_call 9; (with_reducible refine (KAW.out _ HA1.out.bel).mono ?_); rintro e w5 ⟨rfl, hb5⟩
           have HA6 := Lib.hid (HA1.out.next hb5)
           clear hb5))
      go_ret
      exact ⟨rfl, HA6.out.bel⟩

end Go.Proofs.YtfggpgiinihflaaDoor
