/- The law ParamsPrimes: it returns true for every number of bits and every tape. -/
import Derived.Test.YteifbhmfjchfjaaGreatDoorCG
namespace Go.Proofs.YteifbhmfjchfjaaGreatDoor
open Go.RowKit
set_option maxRecDepth 100000
set_option linter.unusedVariables false
set_option maxHeartbeats 4000000

/-- What a law holds in memory: cells, rows of strings, the tables, all of before. -/
structure Hold (w : World) (l : List (Addr × Value)) (rs : List (Option Addr × List ByteArray)) (wx : World) : Prop where
  cells : ∀ p ∈ l, wx.cell? p.1 = some p.2
  rows : ∀ p ∈ rs, SLs wx wx.heap.size p.1 p.2
  tab : Tab wx
  tab10 : Tab10 wx
  bel : Below w.heap.size w wx
section
variable {w wx wy : World} {l : List (Addr × Value)} {rs : List (Option Addr × List ByteArray)}
theorem Hold.next (h : Hold w l rs wx) (hb : Below wx.heap.size wx wy) : Hold w l rs wy :=
  ⟨fun p hp => (hb.cell (cell_in (h.cells p hp))).trans (h.cells p hp), fun p hp => (h.rows p hp).to hb, h.tab.below hb, h.tab10.below hb, h.bel.trans (hb.mono h.bel.size)⟩
theorem Hold.alloc (h : Hold w l rs wx) (o : Obj) : Hold w l rs (wx.alloc o) := h.next ((Below.refl _ _).alloc (Nat.le_refl _) _)
theorem Hold.drew (h : Hold w l rs wx) : Hold w l rs wx.drew := h.next (Below.refl _ _).drew
theorem Hold.add {a : Addr} {v : Value} (h : Hold w l rs wx) (hc : wx.cell? a = some v) : Hold w ((a, v) :: l) rs wx :=
  ⟨fun p hp => by
    rcases List.mem_cons.1 hp with rfl | hp
    · exact hc
    · exact h.cells p hp, h.rows, h.tab, h.tab10, h.bel⟩
theorem Hold.row {A : Option Addr} {vs : List ByteArray} (h : Hold w l rs wx) (hs : SLs wx wx.heap.size A vs) : Hold w l ((A, vs) :: rs) wx :=
  ⟨h.cells, fun p hp => by
    rcases List.mem_cons.1 hp with rfl | hp
    · exact hs
    · exact h.rows p hp, h.tab, h.tab10, h.bel⟩
theorem Hold.box3 {a b c : Value} {T : TypeId} (h : Hold w l rs wx) : Hold w ((⟨wx.heap.size, 0, none⟩, a) :: (⟨wx.heap.size, 1, none⟩, b) :: (⟨wx.heap.size, 2, none⟩, c) :: l) rs (wx.alloc (.cells #[a, b, c] T)) :=
  (((h.alloc _).add (by simp [go_sem])).add (by simp [go_sem])).add (by simp [go_sem])
theorem Hold.t3 {p q r : Addr × Value} (h : Hold w (p :: q :: r :: l) rs wx) : wx.cell? p.1 = some p.2 ∧ wx.cell? q.1 = some q.2 ∧ wx.cell? r.1 = some r.2 := ⟨h.cells p (by simp), h.cells q (by simp), h.cells r (by simp)⟩
theorem Hold.tl {p q r : Addr × Value} (h : Hold w (p :: q :: r :: l) rs wx) : Hold w l rs wx := ⟨fun x hx => h.cells x (by simp [hx]), h.rows, h.tab, h.tab10, h.bel⟩
theorem Hold.hd {p : Option Addr × List ByteArray} (h : Hold w l (p :: rs) wx) : SLs wx wx.heap.size p.1 p.2 := h.rows p (by simp)
theorem Hold.rl {p : Option Addr × List ByteArray} (h : Hold w l (p :: rs) wx) : Hold w l rs wx := ⟨h.cells, fun x hx => h.rows x (by simp [hx]), h.tab, h.tab10, h.bel⟩
theorem Hold.start {A : Option Addr} {n c : Nat} {seed : ByteArray} {z : Int} {vals : List ByteArray} {T : TypeId} (hs : SLs w w.heap.size A vals) (hT : Tab w) (hT10 : Tab10 w) :
    Hold w [(⟨w.heap.size, 0, none⟩, .slice A n c), (⟨w.heap.size, 1, none⟩, .string seed), (⟨w.heap.size, 2, none⟩, .int .i64 z)] [(A, vals)] (w.alloc (.cells #[.slice A n c, .string seed, .int .i64 z] T)) :=
  (Hold.row (l := []) (rs := []) ⟨fun p hp => (by cases hp), fun p hp => (by cases hp), hT, hT10, Below.refl _ _⟩ hs).box3
end
/-- What a search hands back on either side, in one form for success and error. -/
def srchOut (s : ByteArray) (vs : List ByteArray) (m : Nat) (sd : ByteArray) (zz er : Int) (e : Ending) (w' : World) : Prop :=
  ∃ A' c', e = .returned (.tuple #[.string s, .agg #[.slice A' m c', .string sd, .int .i64 zz], .int .i64 er]) ∧ SLs w' w'.heap.size A' vs
theorem both_posts (d : Int × Nat × Int) (n : Nat) (seed : ByteArray) (vals : List ByteArray) (hn : vals.length = n) (hm : n ≤ 1000) :
    ∃ s vs m sd zz er, vs.length = m ∧ m ≤ 1000 ∧ (∀ e w', searchPost d n seed vals e w' → srchOut s vs m sd zz er e w') ∧ (∀ k e w', searchPostR k d n seed vals e w' → srchOut s vs m sd zz er e w') := by
  by_cases h0 : d.1 = 0
  · refine ⟨B d.2.1, vals, n, seed, d.2.2, 0, hn, hm, ?_, ?_⟩
    · rintro e w' (⟨_, g, rfl, hs⟩ | ⟨h, _⟩)
      · exact ⟨_, _, rfl, hs⟩
      · exact absurd h0 h
    · rintro k e w' (⟨_, A', c', rfl, hs, _⟩ | ⟨h, _⟩)
      · exact ⟨_, _, rfl, hs⟩
      · exact absurd h0 h
  · refine ⟨⟨#[]⟩, [], 0, ⟨#[]⟩, 0, d.1, rfl, by decide, ?_, ?_⟩
    · rintro e w' (⟨h, _⟩ | ⟨_, rfl⟩)
      · exact absurd h h0
      · exact ⟨_, _, rfl, SLs.nil_⟩
    · rintro k e w' (⟨h, _⟩ | ⟨_, rfl⟩)
      · exact absurd h h0
      · exact ⟨_, _, rfl, SLs.nil_⟩
theorem law_primes_a (bits : Int) (vals : List ByteArray) (A : Option Addr) (n c : Nat) (seed : ByteArray) (z : Int) (w : World) (hn : vals.length = n) (hm1 : n ≤ 1000) (hsl : SLs w w.heap.size A vals) (hT : Tab w) (hT10 : Tab10 w) (hsm : smallT bits = true)
    (hs1 : seed.size ≤ 100000) (hFW : ∀ wq, Below w.heap.size w wq → Calls Tryz.prog 15 #[.agg #[.slice A n c, .string seed, .int .i64 z]] wq fun e w' => e = .returned (.bool true) ∧ Below wq.heap.size wq w') :
    Calls Tryz.prog 3 #[.int .i64 bits, .agg #[.slice A n c, .string seed, .int .i64 z]] w fun e w' => e = .returned (.bool true) ∧ Below w.heap.size w w' := by
  have HA0 := Lib.hid (Hold.start (n := n) (c := c) (seed := seed) (z := z) (T := 24) hsl hT hT10)
  have KSM := Lib.hid (fun wq => law11_small bits wq)
  rw [hsm] at KSM
  have KFW := Lib.hid hFW
  have KAW := Lib.hid (fun wq (h1 : Tab wq) (h2 : Tab10 wq) => law11_awake wq h1 h2)
  obtain ⟨s1, vs1, m1, sd1, z1, er1, hl1, hk1, hp1, hr1⟩ := both_posts (primeD bits vals seed z) n seed vals hn hm1
  obtain ⟨s2, vs2, m2, sd2, z2, er2, hl2, hk2, hp2, hr2⟩ := both_posts (safeD bits vals seed z) n seed vals hn hm1
  have KP := Lib.hid (fun wq (h1 : SLs wq wq.heap.size A vals) (h2 : Tab wq) (h3 : Tab10 wq) => (params_Prime bits vals A n c seed z wq hn hm1 h1 hs1 h2 h3).mono (R' := fun e w' => srchOut s1 vs1 m1 sd1 z1 er1 e w' ∧ Below wq.heap.size wq w') (fun e w' h => ⟨hp1 e w' h.1, h.2⟩))
  have KQ := Lib.hid (fun wq (h1 : SLs wq wq.heap.size A vals) => (r11_Prime bits vals A n c seed z wq hn hm1 h1 hs1).mono (R' := fun e w' => srchOut s1 vs1 m1 sd1 z1 er1 e w' ∧ Below wq.heap.size wq w') (fun e w' h => ⟨hr1 _ e w' h.1, h.2⟩))
  have KS := Lib.hid (fun wq (h1 : SLs wq wq.heap.size A vals) (h2 : Tab wq) (h3 : Tab10 wq) => (params_SafePrime bits vals A n c seed z wq hn hm1 h1 hs1 h2 h3).mono (R' := fun e w' => srchOut s2 vs2 m2 sd2 z2 er2 e w' ∧ Below wq.heap.size wq w') (fun e w' h => ⟨hp2 e w' h.1, h.2⟩))
  have KT := Lib.hid (fun wq (h1 : SLs wq wq.heap.size A vals) => (r11_SafePrime bits vals A n c seed z wq hn hm1 h1 hs1).mono (R' := fun e w' => srchOut s2 vs2 m2 sd2 z2 er2 e w' ∧ Below wq.heap.size wq w') (fun e w' h => ⟨hr2 _ e w' h.1, h.2⟩))
  have KE1 := Lib.hid (fun (A1 A2 : Option Addr) (c1 c2 : Nat) wq (h1 : SLs wq wq.heap.size A1 vs1) (h2 : SLs wq wq.heap.size A2 vs1) => r06_Same vs1 A1 A2 m1 c1 c2 sd1 z1 wq hl1 hk1 h1 h2)
  have KE2 := Lib.hid (fun (A1 A2 : Option Addr) (c1 c2 : Nat) wq (h1 : SLs wq wq.heap.size A1 vs2) (h2 : SLs wq wq.heap.size A2 vs2) => r06_Same vs2 A1 A2 m2 c1 c2 sd2 z2 wq hl2 hk2 h1 h2)
  clear hn hm1 hsl hT hT10 hsm hs1 hFW hl1 hk1 hp1 hr1 hl2 hk2 hp2 hr2
  go_enter Tryz.func3, Tryz.ntmps3
  go_wp2_with (first
    | (go_at_call 14; (with_reducible refine (KSM.out _).mono ?_); rintro e w0 ⟨rfl, rfl⟩)
    | (go_at_call 15; (with_reducible refine (KFW.out _ HA0.out.bel).mono ?_); rintro e w1 ⟨rfl, hb1⟩
       have HA1 := Lib.hid (HA0.out.next hb1)
       obtain ⟨t0, t1, t2⟩ := HA1.out.t3
       clear hb1)
    | (go_at_call 17; (with_reducible refine (KP.out _ HA1.out.hd HA1.out.tab HA1.out.tab10).mono ?_); rintro e w2 ⟨⟨A1, c1, rfl, hs⟩, hb2⟩
       have HA2 := Lib.hid (((HA1.out.next hb2).row hs).box3 (a := .slice A1 m1 c1) (b := .string sd1) (c := .int .i64 z1) (T := 24))
       obtain ⟨t0, t1, t2⟩ := HA2.out.tl.t3
       clear hb2 hs)
    | (go_at_call 18; (with_reducible refine (KQ.out _ HA2.out.rl.hd).mono ?_); rintro e w3 ⟨⟨A2, c2, rfl, hs⟩, hb3⟩
       have HA3 := Lib.hid (((HA2.out.next hb3).row hs).box3 (a := .slice A2 m1 c2) (b := .string sd1) (c := .int .i64 z1) (T := 24))
       obtain ⟨t0, t1, t2⟩ := HA3.out.tl.tl.t3
       clear hb3 hs)
    | (go_at_call 19; (with_reducible refine (KS.out _ HA3.out.rl.rl.hd HA3.out.tab HA3.out.tab10).mono ?_); rintro e w4 ⟨⟨A3, c3, rfl, hs⟩, hb4⟩
       have HA4 := Lib.hid (((HA3.out.next hb4).row hs).box3 (a := .slice A3 m2 c3) (b := .string sd2) (c := .int .i64 z2) (T := 24))
       obtain ⟨t0, t1, t2⟩ := HA4.out.tl.tl.tl.t3
       clear hb4 hs)
    | (go_at_call 20; (with_reducible refine (KT.out _ HA4.out.rl.rl.rl.hd).mono ?_); rintro e w5 ⟨⟨A4, c4, rfl, hs⟩, hb5⟩
       have HA5 := Lib.hid (((HA4.out.next hb5).row hs).box3 (a := .slice A4 m2 c4) (b := .string sd2) (c := .int .i64 z2) (T := 24))
       clear hb5 hs)
    | (go_at_call 16; (with_reducible refine (KAW.out _ HA5.out.tab HA5.out.tab10).mono ?_); rintro e w6 ⟨rfl, hb6⟩
       have HA6 := Lib.hid (HA5.out.next hb6)
       obtain ⟨x0, x1, x2⟩ := HA6.out.tl.tl.tl.t3
       obtain ⟨y0, y1, y2⟩ := HA6.out.tl.tl.t3
       clear hb6)
    | (go_at_call 21; (with_reducible refine (KE1.out _ _ _ _ _ HA6.out.rl.rl.rl.hd HA6.out.rl.rl.hd).mono ?_); rintro e w7 ⟨rfl, hb7⟩
       have HA7 := Lib.hid (HA6.out.next hb7)
       obtain ⟨u0, u1, u2⟩ := HA7.out.tl.t3
       obtain ⟨v0, v1, v2⟩ := HA7.out.t3
       clear hb7)
    | (go_at_call 21; (with_reducible refine (KE2.out _ _ _ _ _ HA7.out.rl.hd HA7.out.hd).mono ?_); rintro e w8 ⟨rfl, hb8⟩
       have HA8 := Lib.hid (HA7.out.next hb8)
       clear hb8))
  go_ret
  exact ⟨rfl, HA8.out.bel⟩
theorem law_primes (bits : Int) (vals : List ByteArray) (A : Option Addr) (n c : Nat) (seed : ByteArray) (z : Int) (w : World) (hn : vals.length = n) (hm : n ≤ maxLen) (hsl : SLs w w.heap.size A vals) (hT : Tab w) (hT10 : Tab10 w) :
    Calls Tryz.prog 3 #[.int .i64 bits, .agg #[.slice A n c, .string seed, .int .i64 z]] w fun e w' => e = .returned (.bool true) ∧ Below w.heap.size w w' := by
  have KAW := Lib.hid (fun wq (h1 : Below w.heap.size w wq) => law11_awake wq (hT.below h1) (hT10.below h1))
  have HA0 := Lib.hid (BoxT.start w A n c seed z)
  have KSM := Lib.hid (fun wq => law11_small bits wq)
  cases hsm : smallT bits
  · rw [hsm] at KSM
    clear hn hm hsl hT hT10 hsm
    go_enter Tryz.func3, Tryz.ntmps3
    go_wp2_with (first
      | (go_at_call 14; (with_reducible refine (KSM.out _).mono ?_); rintro e w0 ⟨rfl, rfl⟩)
      | (go_at_call 16; (with_reducible refine (KAW.out _ HA0.out.bel).mono ?_); rintro e w5 ⟨rfl, hb5⟩
         have HA6 := Lib.hid (HA0.out.next hb5)
         clear hb5))
    go_ret
    exact ⟨rfl, HA6.out.bel⟩
  · by_cases hf : FewP vals seed z
    · have KFW : ∀ wq, Below w.heap.size w wq → Calls Tryz.prog 15 #[.agg #[.slice A n c, .string seed, .int .i64 z]] wq fun e w' => e = .returned (.bool true) ∧ Below wq.heap.size wq w' := fun wq h1 => few_is vals A n c wq.heap.size seed z wq hn hm ((hsl.below h1).more h1.size) (Nat.le_refl _) true ⟨fun _ => hf, fun _ => rfl⟩
      clear KAW HA0 KSM
      exact law_primes_a bits vals A n c seed z w hn (by have := hf.1; omega) hsl hT hT10 hsm (by have := hf.2.2.1; omega) KFW
    · have KFW := Lib.hid (fun wq (h1 : Below w.heap.size w wq) => few_is vals A n c wq.heap.size seed z wq hn hm ((hsl.below h1).more h1.size) (Nat.le_refl _) false ⟨fun h => (by cases h), fun h => absurd h hf⟩)
      rw [hsm] at KSM
      clear hn hm hsl hT hT10 hsm hf
      go_enter Tryz.func3, Tryz.ntmps3
      go_wp2_with (first
        | (go_at_call 14; (with_reducible refine (KSM.out _).mono ?_); rintro e w0 ⟨rfl, rfl⟩)
        | (go_at_call 15; (with_reducible refine (KFW.out _ HA0.out.bel).mono ?_); rintro e w1 ⟨rfl, hb1⟩
           have HA1 := Lib.hid (HA0.out.next hb1)
           clear hb1)
        | (go_at_call 16; (with_reducible refine (KAW.out _ HA1.out.bel).mono ?_); rintro e w5 ⟨rfl, hb5⟩
           have HA6 := Lib.hid (HA1.out.next hb5)
           clear hb5))
      go_ret
      exact ⟨rfl, HA6.out.bel⟩

end Go.Proofs.YteifbhmfjchfjaaGreatDoor
