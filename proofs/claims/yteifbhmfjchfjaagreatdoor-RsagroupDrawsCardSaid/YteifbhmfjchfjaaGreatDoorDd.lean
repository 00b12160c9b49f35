/- The law RsagroupDraws: it returns true for every group and every tape. -/
import Derived.Test.YteifbhmfjchfjaaGreatDoorDb
import Derived.Test.YteifbhmfjchfjaaGreatDoorHo
import Derived.Test.YteifbhmfjchfjaaGreatDoorAA
namespace Go.Proofs.YteifbhmfjchfjaaGreatDoor
open Go.RowKit
set_option maxRecDepth 100000
set_option linter.unusedVariables false
set_option maxHeartbeats 4000000

/-- The tape is small. -/
def Few6P (vals : List ByteArray) (seed : ByteArray) (z : Int) : Prop := vals.length ≤ 40 ∧ (∀ j, j < vals.length → (vals.getD j ByteArray.empty).size ≤ 140) ∧ seed.size ≤ 100
/-- What Few hands back. -/
def few6Res (vals : List ByteArray) (seed : ByteArray) (z : Int) (e : Ending) : Prop :=
  ∃ b, e = .returned (.bool b) ∧ (b = true ↔ Few6P vals seed z)
theorem law06_Few (vals : List ByteArray) (A : Option Addr) (n c b : Nat) (seed : ByteArray) (z : Int) (w : World) (hn : vals.length = n) (hm : n ≤ maxLen) (h : SLs w b A vals) (hb : b ≤ w.heap.size) :
    Calls Tryz.prog 27 #[.agg #[.slice A n c, .string seed, .int .i64 z]] w fun e w' => few6Res vals seed z e ∧ Below w.heap.size w w' := by
  have HS := Lib.hid (h.next hb ((Below.refl w.heap.size w).alloc (Nat.le_refl _) (.cells #[.slice A n c, .string seed, .int .i64 z] 24)))
  have HN := Lib.hid hn
  unfold maxLen at hm
  clear h hn
  go_enter Tryz.func27, Tryz.ntmps27
  go_wp2
  go_loop [3] (fun v => ∃ k : Nat, v = .int .i64 k ∧ k ≤ n ∧ k ≤ 40 ∧ ∀ j, j < k → (vals.getD j ByteArray.empty).size ≤ 140) (fun v => n - (intOf v).toNat)
  case atStart => exact ⟨0, rfl, Nat.zero_le _, by decide, fun j h => absurd h (Nat.not_lt_zero _)⟩
  case round =>
    obtain ⟨k, rfl, hk, hk2, hall⟩ := hrel
    have HA := Lib.hid hall
    clear hall
    by_cases hlt : k < n ∧ k < 40
    · obtain ⟨ad, rfl, hc⟩ := HS.out.at_ (k := k) (by rw [HN.out]; exact hlt.1)
      obtain ⟨x, hx⟩ : ∃ x, vals.getD k ByteArray.empty = x := ⟨_, rfl⟩
      rw [hx] at hc
      have HX := Lib.hid hx
      have k1 : decide (k < n) = true := decide_eq_true hlt.1
      have k2 : decide ((k : Int) < 40) = true := decide_eq_true (by omega)
      have HLT := Lib.hid hlt
      have hkn := hlt.1
      clear hx hlt
      by_cases h8 : x.size ≤ 140
      · have k3 : decide ((140 : Int) < (x.size : Int)) = false := decide_eq_false (by omega)
        have H8 := Lib.hid h8
        clear h8
        go_wp2
        go_round
        case rel => exact ⟨k + 1, by go_num, HLT.out.1, HLT.out.2, fun j hj => by
          by_cases e : j = k
          · subst e; rw [HX.out]; exact H8.out
          · exact HA.out j (by omega)⟩
        case measure => have := HLT.out.1; simp [intOf]; omega
      · have k3 : decide ((140 : Int) < (x.size : Int)) = true := decide_eq_true (by omega)
        have H8 := Lib.hid h8
        clear h8
        go_wp2
        go_ret
        exact ⟨⟨false, rfl, fun h => (by cases h), fun h => absurd (HX.out ▸ h.2.1 k (by rw [HN.out]; exact HLT.out.1)) H8.out⟩, (Below.refl _ _).alloc (Nat.le_refl _) _⟩
    · have HLT := Lib.hid hlt
      by_cases h40 : n ≤ 40
      · have hkn : k = n := by omega
        have k1 : decide (k < n) = false := decide_eq_false (by omega)
        have k4 : decide ((n : Int) ≤ 40) = true := decide_eq_true (by omega)
        have HKN := Lib.hid hkn
        have H40 := Lib.hid h40
        clear hlt hkn h40
        by_cases hs : seed.size ≤ 100
        · have k5 : decide ((seed.size : Int) ≤ 100) = true := decide_eq_true (by omega)
          have HSZ := Lib.hid hs
          clear hs
          go_wp2
          go_ret
          exact ⟨⟨_, rfl, fun h => ⟨by rw [HN.out]; exact H40.out, fun j hj => HA.out j (by rw [HKN.out, ← HN.out]; exact hj), HSZ.out⟩, fun h => rfl⟩, (Below.refl _ _).alloc (Nat.le_refl _) _⟩
        · have k5 : decide ((seed.size : Int) ≤ 100) = false := decide_eq_false (by omega)
          have HSZ := Lib.hid hs
          clear hs
          go_wp2
          go_ret
          exact ⟨⟨false, rfl, fun h => (by cases h), fun h => absurd h.2.2 HSZ.out⟩, (Below.refl _ _).alloc (Nat.le_refl _) _⟩
      · have k4 : decide ((n : Int) ≤ 40) = false := decide_eq_false (by omega)
        have H40 := Lib.hid h40
        by_cases hkn : k < n
        · have k1 : decide (k < n) = true := decide_eq_true (by omega)
          have k2 : decide ((k : Int) < 40) = false := decide_eq_false (by omega)
          clear hlt h40 hkn
          go_wp2
          go_ret
          exact ⟨⟨false, rfl, fun h => (by cases h), fun h => absurd (HN.out ▸ h.1) H40.out⟩, (Below.refl _ _).alloc (Nat.le_refl _) _⟩
        · have k1 : decide (k < n) = false := decide_eq_false (by omega)
          clear hlt h40 hkn
          go_wp2
          go_ret
          exact ⟨⟨false, rfl, fun h => (by cases h), fun h => absurd (HN.out ▸ h.1) H40.out⟩, (Below.refl _ _).alloc (Nat.le_refl _) _⟩
theorem few6_is (vals : List ByteArray) (A : Option Addr) (n c b : Nat) (seed : ByteArray) (z : Int) (w : World) (hn : vals.length = n) (hm : n ≤ maxLen) (h : SLs w b A vals) (hb : b ≤ w.heap.size) (B : Bool) (hB : B = true ↔ Few6P vals seed z) :
    Calls Tryz.prog 27 #[.agg #[.slice A n c, .string seed, .int .i64 z]] w fun e w' => e = .returned (.bool B) ∧ Below w.heap.size w w' := by
  refine (law06_Few vals A n c b seed z w hn hm h hb).mono ?_
  rintro e w' ⟨⟨b', rfl, hb'⟩, hbl⟩
  have : b' = B := by
    cases b' <;> cases B
    · rfl
    · exact absurd (hb'.2 (hB.1 rfl)) (by decide)
    · exact absurd (hB.2 (hb'.1 rfl)) (by decide)
    · rfl
  rw [this]
  exact ⟨rfl, hbl⟩
/-- The law RsagroupDraws. -/
theorem Hold.box2 {w wx : World} {l : List (Addr × Value)} {rs : List (Option Addr × List ByteArray)} {a b : Value} {T : TypeId} (h : Hold w l rs wx) : Hold w ((⟨wx.heap.size, 0, none⟩, a) :: (⟨wx.heap.size, 1, none⟩, b) :: l) rs (wx.alloc (.cells #[a, b] T)) :=
  ((h.alloc _).add (by simp [go_sem])).add (by simp [go_sem])
theorem Hold.nil_ {w : World} (hT : Tab w) (hT10 : Tab10 w) : Hold w [] [] w := ⟨fun p hp => (by cases hp), fun p hp => (by cases hp), hT, hT10, Below.refl _ _⟩
theorem fewS2 {m o : ByteArray} (h : fewS [m, o] = true) : m.size ≤ 8 := by
  unfold fewS at h
  simp only [List.all_cons, List.all_nil, Bool.and_true, Bool.and_eq_true, decide_eq_true_eq] at h
  exact h.1
theorem draws_start (m o : ByteArray) (A : Option Addr) (n c : Nat) (seed : ByteArray) (z : Int) (vals : List ByteArray) (w : World) (hT : Tab w) (hT10 : Tab10 w) (hsl : SLs w w.heap.size A vals) :
    Hold w [(⟨w.heap.size + 1, 0, none⟩, .slice A n c), (⟨w.heap.size + 1, 1, none⟩, .string seed), (⟨w.heap.size + 1, 2, none⟩, .int .i64 z), (⟨w.heap.size, 0, none⟩, .string m), (⟨w.heap.size, 1, none⟩, .string o)] [(A, vals)] ((w.alloc (.cells #[.string m, .string o] 37)).alloc (.cells #[.slice A n c, .string seed, .int .i64 z] 24)) := by
  have := (((Hold.nil_ hT hT10).row hsl).box2 (a := .string m) (b := .string o) (T := 37)).box3 (a := .slice A n c) (b := .string seed) (c := .int .i64 z) (T := 24)
  rw [World.size_alloc] at this
  exact this
theorem law_draws (m o : ByteArray) (vals : List ByteArray) (A : Option Addr) (n c : Nat) (seed : ByteArray) (z : Int) (w : World) (hn : vals.length = n) (hm : n ≤ maxLen) (hsl : SLs w w.heap.size A vals) (hT : Tab w) (hT10 : Tab10 w) :
    Calls Tryz.prog 5 #[.agg #[.string m, .string o], .agg #[.slice A n c, .string seed, .int .i64 z]] w fun e w' => e = .returned (.bool true) ∧ Below w.heap.size w w' := by
  have HA0 := Lib.hid (draws_start m o A n c seed z vals w hT hT10 hsl)
  have HAW := Lib.hid (fun w hT => law10_awake w hT)
  have hfw := law10_few [m, o] 2 ((w.alloc (.cells #[.string m, .string o] 37)).alloc (.cells #[.slice A n c, .string seed, .int .i64 z] 24)).heap.size (((w.alloc (.cells #[.string m, .string o] 37)).alloc (.cells #[.slice A n c, .string seed, .int .i64 z] 24)).alloc (.cells #[.string m, .string o] 28)) rfl (by decide) (SRow.new _ 28 [m, o])
  simp only [World.size_alloc] at hfw
  have HFW := Lib.hid hfw
  clear hfw
  have HF6 := Lib.hid (fun wq (h1 : Below w.heap.size w wq) (B : Bool) hB => few6_is vals A n c wq.heap.size seed z wq hn hm (hsl.to h1) (Nat.le_refl _) B hB)
  cases hf : fewS [m, o]
  · rw [hf] at HFW
    clear hn hm hsl hT hT10 hf
    go_enter Tryz.func5, Tryz.ntmps5
    go_wp2_with fail
    obtain ⟨t0, t1, t2⟩ := HA0.out.t3
    have g0 := HA0.out.cells (⟨w.heap.size, 0, none⟩, .string m) (by simp)
    have g1 := HA0.out.cells (⟨w.heap.size, 1, none⟩, .string o) (by simp)
    go_wp2_with (first
      | (go_at_call 26; (with_reducible refine HFW.out.mono ?_); rintro e w0 ⟨rfl, rfl⟩; have HA1 := Lib.hid (HA0.out.alloc (.cells #[.string m, .string o] 28)))
      | (go_at_call 28; (with_reducible refine (HAW.out _ HA1.out.tab).mono ?_); rintro e w1 ⟨rfl, hb1⟩; have HA2 := Lib.hid (HA1.out.next hb1); clear hb1))
    go_ret
    exact ⟨rfl, HA2.out.bel⟩
  · rw [hf] at HFW
    have sm := fewS2 hf
    by_cases h6 : Few6P vals seed z
    · have HF6 := Lib.hid (fun wq h1 => HF6.out wq h1 true ⟨fun _ => h6, fun _ => rfl⟩)
      have hm1 : n ≤ 1000 := by have := h6.1; omega
      have hs1 : seed.size ≤ 100000 := by have := h6.2.2; omega
      obtain ⟨s1, vs1, m1, sd1, z1, er1, hl1, hk1, hp1, hr1⟩ := both_posts (squD vals seed m o z) n seed vals hn hm1
      have KP := Lib.hid (fun wq (h1 : SLs wq wq.heap.size A vals) (h3 : Tab10 wq) => (rsagroup_Square m o vals A n c seed z wq sm hn hm1 h1 hs1 h3).mono (R' := fun e w' => srchOut s1 vs1 m1 sd1 z1 er1 e w' ∧ Below wq.heap.size wq w') (fun e w' h => ⟨hp1 e w' h.1, h.2⟩))
      have KQ := Lib.hid (fun wq (h1 : SLs wq wq.heap.size A vals) => (r10_Square m o vals A n c seed z wq sm hn hm1 h1 hs1).mono (R' := fun e w' => srchOut s1 vs1 m1 sd1 z1 er1 e w' ∧ Below wq.heap.size wq w') (fun e w' h => ⟨hr1 _ e w' h.1, h.2⟩))
      have KE1 := Lib.hid (fun (A1 A2 : Option Addr) (c1 c2 : Nat) wq (h1 : SLs wq wq.heap.size A1 vs1) (h2 : SLs wq wq.heap.size A2 vs1) => r06_Same vs1 A1 A2 m1 c1 c2 sd1 z1 wq hl1 hk1 h1 h2)
      clear hn hm hm1 hsl hT hT10 hs1 hl1 hk1 hp1 hr1 hf sm h6
      go_enter Tryz.func5, Tryz.ntmps5
      go_wp2_with fail
      obtain ⟨t0, t1, t2⟩ := HA0.out.t3
      have g0 := HA0.out.cells (⟨w.heap.size, 0, none⟩, .string m) (by simp)
      have g1 := HA0.out.cells (⟨w.heap.size, 1, none⟩, .string o) (by simp)
      go_wp2_with (first
        | (go_at_call 26; (with_reducible refine HFW.out.mono ?_); rintro e w0 ⟨rfl, rfl⟩; have HA1 := Lib.hid (HA0.out.alloc (.cells #[.string m, .string o] 28))
           obtain ⟨t0, t1, t2⟩ := HA1.out.t3)
        | (go_at_call 27; (with_reducible refine (HF6.out _ HA1.out.bel).mono ?_); rintro e w1 ⟨rfl, hb1⟩
           have HA2 := Lib.hid (HA1.out.next hb1)
           obtain ⟨t0, t1, t2⟩ := HA2.out.t3
           have g0 := HA2.out.cells (⟨w.heap.size, 0, none⟩, .string m) (by simp)
           have g1 := HA2.out.cells (⟨w.heap.size, 1, none⟩, .string o) (by simp)
           clear hb1)
        | (go_at_call 29; (with_reducible refine (KP.out _ HA2.out.hd HA2.out.tab10).mono ?_); rintro e w2 ⟨⟨A1, c1, rfl, hs⟩, hb2⟩
           have HA3 := Lib.hid (((HA2.out.next hb2).row hs).box3 (a := .slice A1 m1 c1) (b := .string sd1) (c := .int .i64 z1) (T := 24))
           obtain ⟨t0, t1, t2⟩ := HA3.out.tl.t3
           have g0 := HA3.out.cells (⟨w.heap.size, 0, none⟩, .string m) (by simp)
           have g1 := HA3.out.cells (⟨w.heap.size, 1, none⟩, .string o) (by simp)
           clear hb2 hs)
        | (go_at_call 30; (with_reducible refine (KQ.out _ HA3.out.rl.hd).mono ?_); rintro e w3 ⟨⟨A2, c2, rfl, hs⟩, hb3⟩
           have HA4 := Lib.hid (((HA3.out.next hb3).row hs).box3 (a := .slice A2 m1 c2) (b := .string sd1) (c := .int .i64 z1) (T := 24))
           clear hb3 hs)
        | (go_at_call 28; (with_reducible refine (HAW.out _ HA4.out.tab).mono ?_); rintro e w6 ⟨rfl, hb6⟩
           have HA6 := Lib.hid (HA4.out.next hb6)
           obtain ⟨x0, x1, x2⟩ := HA6.out.tl.t3
           obtain ⟨y0, y1, y2⟩ := HA6.out.t3
           clear hb6)
        | (go_at_call 21; (with_reducible refine (KE1.out _ _ _ _ _ HA6.out.rl.hd HA6.out.hd).mono ?_); rintro e w7 ⟨rfl, hb7⟩
           have HA7 := Lib.hid (HA6.out.next hb7)
           clear hb7))
      go_ret
      exact ⟨rfl, HA7.out.bel⟩
    · have HF6 := Lib.hid (fun wq h1 => HF6.out wq h1 false ⟨fun h => (by cases h), fun h => absurd h h6⟩)
      clear hn hm hsl hT hT10 hf sm h6
      go_enter Tryz.func5, Tryz.ntmps5
      go_wp2_with fail
      obtain ⟨t0, t1, t2⟩ := HA0.out.t3
      have g0 := HA0.out.cells (⟨w.heap.size, 0, none⟩, .string m) (by simp)
      have g1 := HA0.out.cells (⟨w.heap.size, 1, none⟩, .string o) (by simp)
      go_wp2_with (first
        | (go_at_call 26; (with_reducible refine HFW.out.mono ?_); rintro e w0 ⟨rfl, rfl⟩; have HA1 := Lib.hid (HA0.out.alloc (.cells #[.string m, .string o] 28))
           obtain ⟨t0, t1, t2⟩ := HA1.out.t3)
        | (go_at_call 27; (with_reducible refine (HF6.out _ HA1.out.bel).mono ?_); rintro e w1 ⟨rfl, hb1⟩
           have HA2 := Lib.hid (HA1.out.next hb1)
           clear hb1)
        | (go_at_call 28; (with_reducible refine (HAW.out _ HA2.out.tab).mono ?_); rintro e w6 ⟨rfl, hb6⟩
           have HA6 := Lib.hid (HA2.out.next hb6)
           clear hb6))
      go_ret
      exact ⟨rfl, HA6.out.bel⟩

end Go.Proofs.YteifbhmfjchfjaaGreatDoor
