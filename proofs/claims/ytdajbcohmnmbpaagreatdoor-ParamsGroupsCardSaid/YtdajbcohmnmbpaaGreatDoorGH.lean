/- The law ParamsGroups: it returns true for every number of bits and every tape. -/
import Derived.Test.YtdajbcohmnmbpaaGreatDoorGM
import Derived.Test.YtdajbcohmnmbpaaGreatDoorHo
import Derived.Test.YtdajbcohmnmbpaaGreatDoorZM4
namespace Go.Proofs.YtdajbcohmnmbpaaGreatDoor
open Go.RowKit
set_option maxRecDepth 100000
set_option linter.unusedVariables false
set_option maxHeartbeats 4000000

/-- A list of cells in memory. -/
def holdC (wx : World) : List (Addr × Value) → Prop
  | [] => True
  | p :: l => wx.cell? p.1 = some p.2 ∧ holdC wx l
theorem Hold.facts {w wx : World} {l : List (Addr × Value)} {rs : List (Option Addr × List ByteArray)} (h : Hold w l rs wx) : holdC wx l := by
  have hc := h.cells
  clear h
  induction l with
  | nil => exact trivial
  | cons p l ih => exact ⟨hc p (by simp), ih (fun q hq => hc q (by simp [hq]))⟩
theorem Hold.boxG {w wx : World} {l : List (Addr × Value)} {rs : List (Option Addr × List ByteArray)} {a b : Value} {T : TypeId} (h : Hold w l rs wx) : Hold w ((⟨wx.heap.size, 0, none⟩, a) :: (⟨wx.heap.size, 1, none⟩, b) :: l) rs (wx.alloc (.cells #[a, b] T)) :=
  ((h.alloc _).add (by simp [go_sem])).add (by simp [go_sem])
theorem Hold.boxGT {w wx : World} {l : List (Addr × Value)} {rs : List (Option Addr × List ByteArray)} {a b x y t : Value} {T T2 : TypeId} (h : Hold w l rs wx) :
    Hold w ((⟨wx.heap.size + 1, 0, none⟩, x) :: (⟨wx.heap.size + 1, 1, none⟩, y) :: (⟨wx.heap.size + 1, 2, none⟩, t) :: (⟨wx.heap.size, 0, none⟩, a) :: (⟨wx.heap.size, 1, none⟩, b) :: l) rs ((wx.alloc (.cells #[a, b] T)).alloc (.cells #[x, y, t] T2)) := by
  have := (h.boxG (a := a) (b := b) (T := T)).box3 (a := x) (b := y) (c := t) (T := T2)
  rwa [World.size_alloc] at this
theorem Hold.boxGGT {w wx : World} {l : List (Addr × Value)} {rs : List (Option Addr × List ByteArray)} {a b c d x y t : Value} {T T1 T2 : TypeId} (h : Hold w l rs wx) :
    Hold w ((⟨wx.heap.size + 1 + 1, 0, none⟩, x) :: (⟨wx.heap.size + 1 + 1, 1, none⟩, y) :: (⟨wx.heap.size + 1 + 1, 2, none⟩, t) :: (⟨wx.heap.size + 1, 0, none⟩, c) :: (⟨wx.heap.size + 1, 1, none⟩, d) :: (⟨wx.heap.size, 0, none⟩, a) :: (⟨wx.heap.size, 1, none⟩, b) :: l) rs (((wx.alloc (.cells #[a, b] T)).alloc (.cells #[c, d] T1)).alloc (.cells #[x, y, t] T2)) := by
  have := (h.boxG (a := a) (b := b) (T := T)).boxGT (a := c) (b := d) (x := x) (y := y) (t := t) (T := T1) (T2 := T2)
  rwa [World.size_alloc] at this
/-- What Main hands back on either side. -/
def grpOut (m o : ByteArray) (vs : List ByteArray) (k : Nat) (sd : ByteArray) (zz er : Int) (e : Ending) (w' : World) : Prop :=
  ∃ A' c', e = .returned (.tuple #[.agg #[.string m, .string o], .agg #[.slice A' k c', .string sd, .int .i64 zz], .int .i64 er]) ∧ SLs w' w'.heap.size A' vs
theorem both_main (d : Int × Nat × Nat × Int) (n : Nat) (seed : ByteArray) (vals : List ByteArray) (hn : vals.length = n) (hm : n ≤ 1000) :
    ∃ m o vs k sd zz er, vs.length = k ∧ k ≤ 1000 ∧ (∀ e w', mainPostF d n seed vals e w' → grpOut m o vs k sd zz er e w') ∧ (∀ e w', mainPostR d n seed vals e w' → grpOut m o vs k sd zz er e w') := by
  by_cases h0 : d.1 = 0
  · refine ⟨B d.2.1, B d.2.2.1, vals, n, seed, d.2.2.2, 0, hn, hm, ?_, ?_⟩
    · rintro e w' (⟨_, g, rfl, hs⟩ | ⟨h, _⟩)
      · exact ⟨_, _, rfl, hs⟩
      · exact absurd h0 h
    · rintro e w' (⟨_, A', c', rfl, hs⟩ | ⟨h, _⟩)
      · exact ⟨_, _, rfl, hs⟩
      · exact absurd h0 h
  · refine ⟨⟨#[]⟩, ⟨#[]⟩, [], 0, ⟨#[]⟩, 0, d.1, rfl, by decide, ?_, ?_⟩
    · rintro e w' (⟨h, _⟩ | ⟨_, rfl⟩)
      · exact absurd h h0
      · exact ⟨_, _, rfl, SLs.nil_⟩
    · rintro e w' (⟨h, _⟩ | ⟨_, rfl⟩)
      · exact absurd h h0
      · exact ⟨_, _, rfl, SLs.nil_⟩
/-- What Whole hands back on either side. -/
def whlOut (m o p q : ByteArray) (vs : List ByteArray) (k : Nat) (sd : ByteArray) (zz er : Int) (e : Ending) (w' : World) : Prop :=
  ∃ A' c', e = .returned (.tuple #[.agg #[.string m, .string o], .agg #[.string p, .string q], .agg #[.slice A' k c', .string sd, .int .i64 zz], .int .i64 er]) ∧ SLs w' w'.heap.size A' vs
theorem both_whole (d : Int × Nat × Nat × Int) (n : Nat) (seed : ByteArray) (vals : List ByteArray) (hn : vals.length = n) (hm : n ≤ 1000) :
    ∃ m o p q vs k sd zz er, vs.length = k ∧ k ≤ 1000 ∧ (∀ e w', wholePostF d n seed vals e w' → whlOut m o p q vs k sd zz er e w') ∧ (∀ e w', wholePostR d n seed vals e w' → whlOut m o p q vs k sd zz er e w') := by
  by_cases h0 : d.1 = 0
  · refine ⟨B (d.2.1 * d.2.2.1), ⟨#[]⟩, B d.2.1, B d.2.2.1, vals, n, seed, d.2.2.2, 0, hn, hm, ?_, ?_⟩
    · rintro e w' (⟨_, g, rfl, hs⟩ | ⟨h, _⟩)
      · exact ⟨_, _, rfl, hs⟩
      · exact absurd h0 h
    · rintro e w' (⟨_, A', c', rfl, hs⟩ | ⟨h, _⟩)
      · exact ⟨_, _, rfl, hs⟩
      · exact absurd h0 h
  · refine ⟨⟨#[]⟩, ⟨#[]⟩, ⟨#[]⟩, ⟨#[]⟩, [], 0, ⟨#[]⟩, 0, d.1, rfl, by decide, ?_, ?_⟩
    · rintro e w' (⟨h, _⟩ | ⟨_, rfl⟩)
      · exact absurd h h0
      · exact ⟨_, _, rfl, SLs.nil_⟩
    · rintro e w' (⟨h, _⟩ | ⟨_, rfl⟩)
      · exact absurd h h0
      · exact ⟨_, _, rfl, SLs.nil_⟩
theorem law_groups_a (bits : Int) (vals : List ByteArray) (A : Option Addr) (n c : Nat) (seed : ByteArray) (z : Int) (w : World) (hn : vals.length = n) (hm1 : n ≤ 1000) (hsl : SLs w w.heap.size A vals) (hT : Tab w) (hT10 : Tab10 w) (hsm : smallT bits = true)
    (hs1 : seed.size ≤ 100000) (hFW : ∀ wq, Below w.heap.size w wq → Calls Tryz.prog 12 #[.agg #[.slice A n c, .string seed, .int .i64 z]] wq fun e w' => e = .returned (.bool true) ∧ Below wq.heap.size wq w') :
    Calls Tryz.prog 3 #[.int .i64 bits, .agg #[.slice A n c, .string seed, .int .i64 z]] w fun e w' => e = .returned (.bool true) ∧ Below w.heap.size w w' := by
  have HA0 := Lib.hid (Hold.start (n := n) (c := c) (seed := seed) (z := z) (T := 24) hsl hT hT10)
  have KSM := Lib.hid (fun wq => law11_small bits wq)
  rw [hsm] at KSM
  have KFW := Lib.hid hFW
  have KAW := Lib.hid (fun wq (h1 : Tab wq) (h2 : Tab10 wq) => law11_awake wq h1 h2)
  obtain ⟨m1, o1, vs1, k1, sd1, z1, er1, hl1, hk1, hp1, hr1⟩ := both_main (mainD bits vals seed z) n seed vals hn hm1
  obtain ⟨m2, o2, p2, q2, vs2, k2, sd2, z2, er2, hl2, hk2, hp2, hr2⟩ := both_whole (wholeD bits vals seed z) n seed vals hn hm1
  have KP := Lib.hid (fun wq (h1 : SLs wq wq.heap.size A vals) (h2 : Tab wq) (h3 : Tab10 wq) => (params_MainF bits vals A n c seed z wq hn hm1 h1 hs1 h2 h3).mono (R' := fun e w' => grpOut m1 o1 vs1 k1 sd1 z1 er1 e w' ∧ Below wq.heap.size wq w') (fun e w' h => ⟨hp1 e w' h.1, h.2⟩))
  have KQ := Lib.hid (fun wq (h1 : SLs wq wq.heap.size A vals) => (r11_Main bits vals A n c seed z wq hn hm1 h1 hs1).mono (R' := fun e w' => grpOut m1 o1 vs1 k1 sd1 z1 er1 e w' ∧ Below wq.heap.size wq w') (fun e w' h => ⟨hr1 e w' h.1, h.2⟩))
  have KS := Lib.hid (fun wq (h1 : SLs wq wq.heap.size A vals) (h2 : Tab wq) (h3 : Tab10 wq) => (params_WholeF bits vals A n c seed z wq hn hm1 h1 hs1 h2 h3).mono (R' := fun e w' => whlOut m2 o2 p2 q2 vs2 k2 sd2 z2 er2 e w' ∧ Below wq.heap.size wq w') (fun e w' h => ⟨hp2 e w' h.1, h.2⟩))
  have KT := Lib.hid (fun wq (h1 : SLs wq wq.heap.size A vals) => (r11_Whole bits vals A n c seed z wq hn hm1 h1 hs1).mono (R' := fun e w' => whlOut m2 o2 p2 q2 vs2 k2 sd2 z2 er2 e w' ∧ Below wq.heap.size wq w') (fun e w' h => ⟨hr2 e w' h.1, h.2⟩))
  have KE1 := Lib.hid (fun (A1 A2 : Option Addr) (c1 c2 : Nat) wq (h1 : SLs wq wq.heap.size A1 vs1) (h2 : SLs wq wq.heap.size A2 vs1) => r06_Same vs1 A1 A2 k1 c1 c2 sd1 z1 wq hl1 hk1 h1 h2)
  have KE2 := Lib.hid (fun (A1 A2 : Option Addr) (c1 c2 : Nat) wq (h1 : SLs wq wq.heap.size A1 vs2) (h2 : SLs wq wq.heap.size A2 vs2) => r06_Same vs2 A1 A2 k2 c1 c2 sd2 z2 wq hl2 hk2 h1 h2)
  clear hn hm1 hsl hT hT10 hsm hs1 hFW hl1 hk1 hp1 hr1 hl2 hk2 hp2 hr2
  go_enter Tryz.func3, Tryz.ntmps3
  go_wp2_with (first
    | (go_at_call 11; (with_reducible refine (KSM.out _).mono ?_); rintro e w0 ⟨rfl, rfl⟩)
    | (go_at_call 12; (with_reducible refine (KFW.out _ HA0.out.bel).mono ?_); rintro e w1 ⟨rfl, hb1⟩
       have HA1 := Lib.hid (HA0.out.next hb1)
       obtain ⟨t0, t1, t2, _⟩ := HA1.out.facts
       clear hb1)
    | (go_at_call 14; (with_reducible refine (KP.out _ HA1.out.hd HA1.out.tab HA1.out.tab10).mono ?_); rintro e w2 ⟨⟨A1, c1, rfl, hs⟩, hb2⟩
       have HA2 := Lib.hid (((HA1.out.next hb2).row hs).boxGT (a := .string m1) (b := .string o1) (x := .slice A1 k1 c1) (y := .string sd1) (t := .int .i64 z1) (T := 30) (T2 := 24))
       obtain ⟨_, _, _, _, _, t0, t1, t2, _⟩ := HA2.out.facts
       clear hb2 hs)
    | (go_at_call 15; (with_reducible refine (KQ.out _ HA2.out.rl.hd).mono ?_); rintro e w3 ⟨⟨A2, c2, rfl, hs⟩, hb3⟩
       have HA3 := Lib.hid (((HA2.out.next hb3).row hs).boxGT (a := .string m1) (b := .string o1) (x := .slice A2 k1 c2) (y := .string sd1) (t := .int .i64 z1) (T := 30) (T2 := 24))
       obtain ⟨_, _, _, _, _, _, _, _, _, _, t0, t1, t2, _⟩ := HA3.out.facts
       clear hb3 hs)
    | (go_at_call 16; (with_reducible refine (KS.out _ HA3.out.rl.rl.hd HA3.out.tab HA3.out.tab10).mono ?_); rintro e w4 ⟨⟨A3, c3, rfl, hs⟩, hb4⟩
       have HA4 := Lib.hid (((HA3.out.next hb4).row hs).boxGGT (a := .string m2) (b := .string o2) (c := .string p2) (d := .string q2) (x := .slice A3 k2 c3) (y := .string sd2) (t := .int .i64 z2) (T := 30) (T1 := 37) (T2 := 24))
       obtain ⟨_, _, _, _, _, _, _, _, _, _, _, _, _, _, _, _, _, t0, t1, t2, _⟩ := HA4.out.facts
       clear hb4 hs)
    | (go_at_call 17; (with_reducible refine (KT.out _ HA4.out.rl.rl.rl.hd).mono ?_); rintro e w5 ⟨⟨A4, c4, rfl, hs⟩, hb5⟩
       have HA5 := Lib.hid (((HA4.out.next hb5).row hs).boxGGT (a := .string m2) (b := .string o2) (c := .string p2) (d := .string q2) (x := .slice A4 k2 c4) (y := .string sd2) (t := .int .i64 z2) (T := 30) (T1 := 37) (T2 := 24))
       clear hb5 hs)
    | (go_at_call 13; (with_reducible refine (KAW.out _ HA5.out.tab HA5.out.tab10).mono ?_); rintro e w6 ⟨rfl, hb6⟩
       have HA6 := Lib.hid (HA5.out.next hb6)
       obtain ⟨a0, a1, a2, a3, a4, a5, a6, a7, a8, a9, a10, a11, a12, a13, a14, a15, a16, a17, a18, a19, a20, a21, a22, a23, _⟩ := HA6.out.facts
       clear hb6)
    | (go_at_call 18; (with_reducible refine (KE1.out _ _ _ _ _ HA6.out.rl.rl.rl.hd HA6.out.rl.rl.hd).mono ?_); rintro e w7 ⟨rfl, hb7⟩
       have HA7 := Lib.hid (HA6.out.next hb7)
       obtain ⟨a0, a1, a2, a3, a4, a5, a6, a7, a8, a9, a10, a11, a12, a13, _⟩ := HA7.out.facts
       clear hb7)
    | (go_at_call 18; (with_reducible refine (KE2.out _ _ _ _ _ HA7.out.rl.hd HA7.out.hd).mono ?_); rintro e w8 ⟨rfl, hb8⟩
       have HA8 := Lib.hid (HA7.out.next hb8)
       clear hb8))
  go_ret
  exact ⟨rfl, HA8.out.bel⟩
theorem law_groups (bits : Int) (vals : List ByteArray) (A : Option Addr) (n c : Nat) (seed : ByteArray) (z : Int) (w : World) (hn : vals.length = n) (hm : n ≤ maxLen) (hsl : SLs w w.heap.size A vals) (hT : Tab w) (hT10 : Tab10 w) :
    Calls Tryz.prog 3 #[.int .i64 bits, .agg #[.slice A n c, .string seed, .int .i64 z]] w fun e w' => e = .returned (.bool true) ∧ Below w.heap.size w w' := by
  have KAW := Lib.hid (fun wq (h1 : Below w.heap.size w wq) => law11_awake wq (hT.below h1) (hT10.below h1))
  have HA0 := Lib.hid (BoxT.start w A n c seed z)
  have KSM := Lib.hid (fun wq => law11_small bits wq)
  cases hsm : smallT bits
  · rw [hsm] at KSM
    clear hn hm hsl hT hT10 hsm
    go_enter Tryz.func3, Tryz.ntmps3
    go_wp2_with (first
      | (go_at_call 11; (with_reducible refine (KSM.out _).mono ?_); rintro e w0 ⟨rfl, rfl⟩)
      | (go_at_call 13; (with_reducible refine (KAW.out _ HA0.out.bel).mono ?_); rintro e w5 ⟨rfl, hb5⟩
         have HA6 := Lib.hid (HA0.out.next hb5)
         clear hb5))
    go_ret
    exact ⟨rfl, HA6.out.bel⟩
  · by_cases hf : FewP vals seed z
    · have KFW : ∀ wq, Below w.heap.size w wq → Calls Tryz.prog 12 #[.agg #[.slice A n c, .string seed, .int .i64 z]] wq fun e w' => e = .returned (.bool true) ∧ Below wq.heap.size wq w' := fun wq h1 => few_is vals A n c wq.heap.size seed z wq hn hm ((hsl.below h1).more h1.size) (Nat.le_refl _) true ⟨fun _ => hf, fun _ => rfl⟩
      clear KAW HA0 KSM
      exact law_groups_a bits vals A n c seed z w hn (by have := hf.1; omega) hsl hT hT10 hsm (by have := hf.2.2.1; omega) KFW
    · have KFW := Lib.hid (fun wq (h1 : Below w.heap.size w wq) => few_is vals A n c wq.heap.size seed z wq hn hm ((hsl.below h1).more h1.size) (Nat.le_refl _) false ⟨fun h => (by cases h), fun h => absurd h hf⟩)
      rw [hsm] at KSM
      clear hn hm hsl hT hT10 hsm hf
      go_enter Tryz.func3, Tryz.ntmps3
      go_wp2_with (first
        | (go_at_call 11; (with_reducible refine (KSM.out _).mono ?_); rintro e w0 ⟨rfl, rfl⟩)
        | (go_at_call 12; (with_reducible refine (KFW.out _ HA0.out.bel).mono ?_); rintro e w1 ⟨rfl, hb1⟩
           have HA1 := Lib.hid (HA0.out.next hb1)
           clear hb1)
        | (go_at_call 13; (with_reducible refine (KAW.out _ HA1.out.bel).mono ?_); rintro e w5 ⟨rfl, hb5⟩
           have HA6 := Lib.hid (HA1.out.next hb5)
           clear hb5))
      go_ret
      exact ⟨rfl, HA6.out.bel⟩

end Go.Proofs.YtdajbcohmnmbpaaGreatDoor
