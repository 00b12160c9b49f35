/- The reference: Ask; printed by genNk.py. -/
import Derived.Test.YtjhlddlocpkhkaaGreatWgJ20
import Derived.Test.YtjhlddlocpkhkaaGreatWgNe
import Derived.Test.YtjhlddlocpkhkaaGreatWgJ27
namespace Go.Proofs.YtjhlddlocpkhkaaGreat
open Go.RowKit
set_option maxRecDepth 100000
set_option linter.unusedVariables false
set_option maxHeartbeats 8000000
/-- What the reference's Ask, Store and Renew hold ahead of their entry. -/
structure AqR (S : Nat → Prop) (w : World) (sec : ByteArray) (Aa : Option Addr) (na ca : Nat) (Ah : Option Addr) (nh ch : Nat) (Au : Option Addr) (nu cu : Nat) (cs : Array Value) (T : TypeId) (sec' : ByteArray) (qs : List Az) (hs : List Hz) (us : List Uz) (A1 : Option Addr) (n1 c1 : Nat) (A2 : Option Addr) (n2 c2 : Nat) (A3 : Option Addr) (n3 c3 b7 : Nat) (wx : World) : Prop where
  bx : BxB w sec Aa na ca Ah nh ch Au nu cu cs T wx
  wal : wx.heap[b7]? = some (.cells #[.string sec', .slice A1 n1 c1, .slice A2 n2 c2, .slice A3 n3 c3] 27 (0, 0))
  mem : WalM wx (fun g => (S g ∨ w.heap.size + 3 ≤ g) ∧ g < b7) qs hs us A1 A2 A3
  lo : w.heap.size + 3 ≤ b7
  hi : b7 < wx.heap.size
  hs : ∀ g, S g → g < w.heap.size
section
variable {S : Nat → Prop} {w wx w' : World} {sec : ByteArray} {Aa : Option Addr} {na ca : Nat} {Ah : Option Addr} {nh ch : Nat} {Au : Option Addr} {nu cu : Nat} {cs : Array Value} {T : TypeId} {sec' : ByteArray} {qs : List Az} {hs : List Hz} {us : List Uz} {A1 : Option Addr} {n1 c1 : Nat} {A2 : Option Addr} {n2 c2 : Nat} {A3 : Option Addr} {n3 c3 b7 : Nat}
theorem AqR.next (h : AqR S w sec Aa na ca Ah nh ch Au nu cu cs T sec' qs hs us A1 n1 c1 A2 n2 c2 A3 n3 c3 b7 wx) (hb : Below wx.heap.size wx w') : AqR S w sec Aa na ca Ah nh ch Au nu cu cs T sec' qs hs us A1 n1 c1 A2 n2 c2 A3 n3 c3 b7 w' :=
  ⟨h.bx.next hb, (hb.block _ h.hi).trans h.wal, h.mem.keep (fun p hp => hb.cell (Nat.lt_trans hp.2 h.hi)), h.lo, Nat.lt_of_lt_of_le h.hi hb.size, h.hs⟩
theorem AqR.drew (h : AqR S w sec Aa na ca Ah nh ch Au nu cu cs T sec' qs hs us A1 n1 c1 A2 n2 c2 A3 n3 c3 b7 wx) : AqR S w sec Aa na ca Ah nh ch Au nu cu cs T sec' qs hs us A1 n1 c1 A2 n2 c2 A3 n3 c3 b7 wx.drew := h.next (Below.refl _ _).drew
theorem AqR.alloc (h : AqR S w sec Aa na ca Ah nh ch Au nu cu cs T sec' qs hs us A1 n1 c1 A2 n2 c2 A3 n3 c3 b7 wx) (o : Obj) : AqR S w sec Aa na ca Ah nh ch Au nu cu cs T sec' qs hs us A1 n1 c1 A2 n2 c2 A3 n3 c3 b7 (wx.alloc o) := h.next ((Below.refl _ _).alloc (Nat.le_refl _) _)
theorem AqR.wc (h : AqR S w sec Aa na ca Ah nh ch Au nu cu cs T sec' qs hs us A1 n1 c1 A2 n2 c2 A3 n3 c3 b7 wx) : wx.cell? ⟨b7, 0, none⟩ = some (.string sec') ∧ wx.cell? ⟨b7, 1, none⟩ = some (.slice A1 n1 c1) ∧ wx.cell? ⟨b7, 2, none⟩ = some (.slice A2 n2 c2) ∧ wx.cell? ⟨b7, 3, none⟩ = some (.slice A3 n3 c3) :=
  ⟨cell_of_row wx _ 0 _ _ _ h.wal, cell_of_row wx _ 1 _ _ _ h.wal, cell_of_row wx _ 2 _ _ _ h.wal, cell_of_row wx _ 3 _ _ _ h.wal⟩
/-- The wallet that a call has handed back is laid into a new box. -/
theorem AqR.start {W w3 : World} (hS : ∀ g, S g → g < w.heap.size) (h : BxB w sec Aa na ca Ah nh ch Au nu cu cs T W) (hb : Below W.heap.size W w3) (hm : WalM w3 (fun g => S g ∨ (W.heap.size ≤ g ∧ g < w3.heap.size)) qs hs us A1 A2 A3) :
    AqR S w sec Aa na ca Ah nh ch Au nu cu cs T sec' qs hs us A1 n1 c1 A2 n2 c2 A3 n3 c3 w3.heap.size (w3.alloc (.cells #[.string sec', .slice A1 n1 c1, .slice A2 n2 c2, .slice A3 n3 c3] 27)) :=
  have hal : Below w3.heap.size w3 (w3.alloc (.cells #[.string sec', .slice A1 n1 c1, .slice A2 n2 c2, .slice A3 n3 c3] 27)) := (Below.refl _ _).alloc (Nat.le_refl _) _
  ⟨(h.next hb).next hal, heap_alloc_new w3 _, (hm.keep (fun p hp => hal.cell (by rcases hp with hp | hp; { have := hS _ hp; have := h.size; have := hb.size; omega }; { exact hp.2 }))).mono (fun g hg => by rcases hg with hg | hg; { have := hS _ hg; have := h.size; have := hb.size; exact ⟨.inl hg, by omega⟩ }; { have := h.size; exact ⟨.inr (by omega), hg.2⟩ }), Nat.le_trans h.size hb.size, by simp, hS⟩
theorem AqR.fin (h : AqR S w sec Aa na ca Ah nh ch Au nu cu cs T sec' qs hs us A1 n1 c1 A2 n2 c2 A3 n3 c3 b7 wx) (v0 v1 v2 v3 : Value) :
    WalM ((((wx.setCell ⟨w.heap.size + 1 + 1, 0, none⟩ v0).setCell ⟨w.heap.size + 1 + 1, 1, none⟩ v1).setCell ⟨w.heap.size + 1 + 1, 2, none⟩ v2).setCell ⟨w.heap.size + 1 + 1, 3, none⟩ v3) (fun g => S g ∨ w.heap.size ≤ g ∧ g < ((((wx.setCell ⟨w.heap.size + 1 + 1, 0, none⟩ v0).setCell ⟨w.heap.size + 1 + 1, 1, none⟩ v1).setCell ⟨w.heap.size + 1 + 1, 2, none⟩ v2).setCell ⟨w.heap.size + 1 + 1, 3, none⟩ v3).heap.size) qs hs us A1 A2 A3 ∧
    Below w.heap.size w ((((wx.setCell ⟨w.heap.size + 1 + 1, 0, none⟩ v0).setCell ⟨w.heap.size + 1 + 1, 1, none⟩ v1).setCell ⟨w.heap.size + 1 + 1, 2, none⟩ v2).setCell ⟨w.heap.size + 1 + 1, 3, none⟩ v3) := by
  have hl : w.heap.size ≤ w.heap.size + 1 + 1 := by omega
  refine ⟨(h.mem.keep fun p hp => ?_).mono fun g hg => hg.1.imp id (fun h3 => ⟨by omega, by have := hg.2; have := h.hi; simp; omega⟩), (((h.bx.bel.setCell (p := ⟨w.heap.size + 1 + 1, 0, none⟩) hl _).setCell (p := ⟨w.heap.size + 1 + 1, 1, none⟩) hl _).setCell (p := ⟨w.heap.size + 1 + 1, 2, none⟩) hl _).setCell (p := ⟨w.heap.size + 1 + 1, 3, none⟩) hl _⟩
  have h1 : p.block < w.heap.size ∨ w.heap.size + 3 ≤ p.block := hp.1.imp (h.hs _) id
  have hcell : ∀ (W : World) (i : Nat) (u : Value), (W.setCell ⟨w.heap.size + 1 + 1, i, none⟩ u).cell? p = W.cell? p := fun W i u => World.cell?_setCell_other _ _ _ _ (fun e => by have := congrArg Addr.block e; simp at this; omega)
  rw [hcell, hcell, hcell, hcell]
end
/-- A change of the reference that went well: the wallet and the entry. -/
def ChgGotS (S : Nat → Prop) (w : World) (sec : ByteArray) (qs : List Az) (hs : List Hz) (us : List Uz) (s : ByteArray) (o : Ending) (w' : World) : Prop :=
  ∃ A1 n1 c1 A2 n2 c2 A3 n3 c3, o = .returned (.tuple #[.agg #[.string sec, .slice A1 n1 c1, .slice A2 n2 c2, .slice A3 n3 c3], .string s, .int .i64 0]) ∧ n1 = qs.length ∧ n2 = hs.length ∧ n3 = us.length ∧ WalM w' (fun g => S g ∨ (w.heap.size ≤ g ∧ g < w'.heap.size)) qs hs us A1 A2 A3 ∧ Below w.heap.size w w'
theorem gotS3_good {S : Nat → Prop} {w w' : World} {o : Ending} {sec : ByteArray} {qs : List Az} {hs : List Hz} {us : List Uz} {s : ByteArray} (h : ChgGotS S w sec qs hs us s o w') : GotR3 S w ⟨0, sec, qs, hs, us, s, 0⟩ o w' := by
  obtain ⟨A1, n1, c1, A2, n2, c2, A3, n3, c3, e, rfl, rfl, rfl, hm, hb⟩ := h
  exact ⟨A1, c1, A2, c2, A3, c3, e, hm, hb⟩
def AskGotS (S : Nat → Prop) (w : World) (sec : ByteArray) (qs : List Az) (hs : List Hz) (us : List Uz) (i s n x b : ByteArray) (o : Ending) (w' : World) : Prop :=
  (∃ z, z ≠ 0 ∧ askZ sec qs hs us i s n x b = z ∧ ZeroErr w z o w') ∨ (validW sec qs hs us = true ∧ [x, b].all valid = true ∧ qs.any (isA n) = false ∧ (encS (entOf ⟨#[97, 115, 107, 101, 100]⟩ (askedL i s n x b))).2 = 0 ∧ ChgGotS S w sec (qs ++ [(i, s, n, x, b)]) hs us (encS (entOf ⟨#[97, 115, 107, 101, 100]⟩ (askedL i s n x b))).1 o w')
theorem r56_Ask (sec : ByteArray) (qs : List Az) (hs : List Hz) (us : List Uz) (Aa Ah Au : Option Addr) (na ca nh ch nu cu : Nat) (i s n x b : ByteArray) (S : Nat → Prop) (w : World) (hq : qs.length = na) (hn : hs.length = nh) (hu : us.length = nu) (ho : WalOk qs hs us) (hsz : i.size + s.size + n.size + x.size + b.size ≤ 100000) (h : WalM w S qs hs us Aa Ah Au) (hS : ∀ g, S g → g < w.heap.size) :
    Calls Tryz.prog 46 #[.agg #[.string sec, .slice Aa na ca, .slice Ah nh ch, .slice Au nu cu], .agg #[.string i, .string s, .string n, .string x, .string b]] w (AskGotS S w sec qs hs us i s n x b) := by
  have HV := Lib.hid (fun W (hb : Below w.heap.size w W) => r56_Valid sec qs hs us Aa Ah Au na ca nh ch nu cu S W hq hn hu (by have := ho.na; omega) (by have := ho.nh; omega) (by have := ho.nu; omega) ho.att (h.keep (fun q hq => hb.cell (hS _ hq))) (fun g hg => Nat.lt_of_lt_of_le (hS g hg) hb.size))
  have HSS := Lib.hid hS
  have HCAN := Lib.hid (fun W => canR_2 x b W)
  have HB0 := Lib.hid (BxB.start (w := w) (sec := sec) (Aa := Aa) (na := na) (ca := ca) (Ah := Ah) (nh := nh) (ch := ch) (Au := Au) (nu := nu) (cu := cu) (cs := #[.string i, .string s, .string n, .string x, .string b]) (T := 40))
  have hac : ∀ W, BxB w sec Aa na ca Ah nh ch Au nu cu #[.string i, .string s, .string n, .string x, .string b] 40 W → W.cell? ⟨w.heap.size + 1, 0, none⟩ = some (.string i) ∧ W.cell? ⟨w.heap.size + 1, 1, none⟩ = some (.string s) ∧ W.cell? ⟨w.heap.size + 1, 2, none⟩ = some (.string n) ∧ W.cell? ⟨w.heap.size + 1, 3, none⟩ = some (.string x) ∧ W.cell? ⟨w.heap.size + 1, 4, none⟩ = some (.string b) := fun W h => ⟨cell_of_row _ _ 0 _ _ _ h.arg, cell_of_row _ _ 1 _ _ _ h.arg, cell_of_row _ _ 2 _ _ _ h.arg, cell_of_row _ _ 3 _ _ _ h.arg, cell_of_row _ _ 4 _ _ _ h.arg⟩
  have HAC := Lib.hid hac
  have HIT := Lib.hid (fun W => r56_askedItems i s n x b W)
  have HLE := Lib.hid (askedL_le i s n x b hsz)
  cases hv : validW sec qs hs us with
  | false =>
    rw [hv] at HV
    have HZ3 : Hid (askZ sec qs hs us i s n x b = 3) := Lib.hid (by unfold askZ; rw [hv]; rfl)
    clear h hS ho hq hn hu hv hsz hac
    go_enter Tryz.func46, Tryz.ntmps46
    go_wp2_with (go_at_call 28; (with_reducible refine (HV.out _ HB0.out.bel).mono ?_); rintro e w1 ⟨rfl, hb1⟩; have HB1 := Lib.hid (HB0.out.next hb1); obtain ⟨⟨r0, r1, r2, r3⟩, g0, g1, g2, g3⟩ := HB1.out.rc; clear hb1)
    refine bodyPost_ret (v := .tuple #[.agg #[.string ⟨#[]⟩, .slice none 0 0, .slice none 0 0, .slice none 0 0], .string ⟨#[]⟩, .int .i64 3]) (by simp [results, Tryz.results46, go_sem, r0, r1, r2, r3]) rfl ?_
    exact .inl ⟨3, by decide, HZ3.out, rfl, HB1.out.zero _ _ _ _⟩
  | true =>
    rw [hv] at HV
    cases hc : [x, b].all valid with
    | false =>
      rw [hc] at HCAN
      have HZ3 : Hid (askZ sec qs hs us i s n x b = 3) := Lib.hid (by unfold askZ; rw [hv, hc]; rfl)
      clear h hS ho hq hn hu hv hsz hac hc
      go_enter Tryz.func46, Tryz.ntmps46
      go_wp2_with (first
        | (go_at_call 28; (with_reducible refine (HV.out _ HB0.out.bel).mono ?_); rintro e w1 ⟨rfl, hb1⟩; have HB1 := Lib.hid (HB0.out.next hb1); have hb2 : BxB w sec Aa na ca Ah nh ch Au nu cu #[.string i, .string s, .string n, .string x, .string b] 40 (w1.alloc (.cells #[.string x, .string b] 22)) := HB1.out.next ((Below.refl _ _).alloc (Nat.le_refl _) _); have HB2 := Lib.hid hb2; obtain ⟨q0, q1, q2, q3, q4⟩ := HAC.out _ HB1.out; obtain ⟨⟨r0, r1, r2, r3⟩, g0, g1, g2, g3⟩ := hb2.rc; clear hb1 hb2)
        | (go_at_call 71; (with_reducible refine (HCAN.out _).mono ?_); rintro e w2 ⟨rfl, rfl⟩))
      refine bodyPost_ret (v := .tuple #[.agg #[.string ⟨#[]⟩, .slice none 0 0, .slice none 0 0, .slice none 0 0], .string ⟨#[]⟩, .int .i64 3]) (by simp [results, Tryz.results46, go_sem, r0, r1, r2, r3]) rfl ?_
      exact .inl ⟨3, by decide, HZ3.out, rfl, HB2.out.zero _ _ _ _⟩
    | true =>
      rw [hc] at HCAN
      cases hd : qs.any (isA n) with
      | true =>
        have HASK := Lib.hid (fun W (hb : Below w.heap.size w W) => r56_ask_twice sec qs hs us Aa Ah Au na ca nh ch nu cu i s n x b S W hq (by have := ho.na; omega) hd (h.keep (fun q hq => hb.cell (hS _ hq))) (fun g hg => Nat.lt_of_lt_of_le (hS g hg) hb.size))
        have HZ8 : Hid (askZ sec qs hs us i s n x b = 8) := Lib.hid (by unfold askZ; rw [hv, hc, hd]; rfl)
        clear h hS ho hq hn hu hv hsz hac hc hd
        go_enter Tryz.func46, Tryz.ntmps46
        go_upto_region 3 with (first
          | (go_at_call 28; (with_reducible refine (HV.out _ HB0.out.bel).mono ?_); rintro e w1 ⟨rfl, hb1⟩; have HB1 := Lib.hid (HB0.out.next hb1); have hb2 : BxB w sec Aa na ca Ah nh ch Au nu cu #[.string i, .string s, .string n, .string x, .string b] 40 (w1.alloc (.cells #[.string x, .string b] 22)) := HB1.out.next ((Below.refl _ _).alloc (Nat.le_refl _) _); have HB2 := Lib.hid hb2; obtain ⟨q0, q1, q2, q3, q4⟩ := HAC.out _ HB1.out; clear hb1 hb2)
          | (go_at_call 71; (with_reducible refine (HCAN.out _).mono ?_); rintro e w2 ⟨rfl, rfl⟩))
        clear q0 q1 q2 q3 q4
        obtain ⟨w2, hw2⟩ : ∃ w2, w1.alloc (.cells #[.string x, .string b] 22) = w2 := ⟨_, rfl⟩
        rw [hw2] at HB2 ⊢
        clear hw2
        obtain ⟨q0, q1, q2, q3, q4⟩ := HAC.out _ HB2.out
        obtain ⟨⟨x0, x1, x2, x3⟩, -⟩ := HB2.out.bc
        go_upto_region 4 with (go_at_call 34; (with_reducible refine (HASK.out _ HB2.out.bel).mono ?_); rintro e w3 ⟨rfl, hb3⟩; have HD := Lib.hid (AqR.start (S := S) (sec' := ⟨#[]⟩) (n1 := 0) (c1 := 0) (n2 := 0) (c2 := 0) (n3 := 0) (c3 := 0) HSS.out HB2.out hb3 walM_nil); clear hb3)
        clear q0 q1 q2 q3 q4 x0 x1 x2 x3
        obtain ⟨w4, hw4⟩ : ∃ w4, w3.alloc (.cells #[.string ⟨#[]⟩, .slice none 0 0, .slice none 0 0, .slice none 0 0] 27) = w4 := ⟨_, rfl⟩
        rw [hw4] at HD ⊢
        clear hw4
        obtain ⟨b7, hb7⟩ : ∃ b, w3.heap.size = b := ⟨_, rfl⟩
        rw [hb7] at HD
        rw [hb7]
        clear hb7
        obtain ⟨q0, q1, q2, q3, q4⟩ := HAC.out _ HD.out.bx
        obtain ⟨x0, x1, x2, x3⟩ := HD.out.wc
        go_region_with (first
          | (go_at_call 82; (with_reducible refine (HIT.out _).mono ?_); rintro e w5 ⟨A5, rfl, hsl5, hb5⟩; have HD5 := Lib.hid (show AqR S w sec Aa na ca Ah nh ch Au nu cu #[.string i, .string s, .string n, .string x, .string b] 40 ⟨#[]⟩ [] [] [] none 0 0 none 0 0 none 0 0 b7 w5 from by { first | exact HD.out.next hb5 | exact HD.out.drew.next hb5 }); have HS5 := Lib.hid (r56_changed_e ⟨#[]⟩ none none none 0 0 0 0 0 0 ⟨#[97, 115, 107, 101, 100]⟩ A5 5 5 8 w5 (by decide)); obtain ⟨y0, y1, y2, y3⟩ := HD5.out.wc; clear hsl5 hb5)
          | (go_at_call 81; (with_reducible refine HS5.out.mono ?_); rintro e w6 ⟨rfl, hb6⟩; have HD6 := Lib.hid (HD5.out.next hb6); obtain ⟨⟨r0, r1, r2, r3⟩, g0, g1, g2, g3⟩ := HD6.out.bx.rc; clear hb6))
        all_goals
          go_wp2_with fail
          refine bodyPost_ret (v := .tuple #[.agg #[.string ⟨#[]⟩, .slice none 0 0, .slice none 0 0, .slice none 0 0], .string ⟨#[]⟩, .int .i64 8]) (by simp [results, Tryz.results46, go_sem, r0, r1, r2, r3]) rfl ?_
          exact .inl ⟨8, by decide, HZ8.out, rfl, HD6.out.bx.zero _ _ _ _⟩
      | false =>
        have HASK := Lib.hid (fun W (hb : Below w.heap.size w W) => r56_ask_ok sec qs hs us Aa Ah Au na ca nh ch nu cu i s n x b S W hq (by have := ho.na; omega) hn hu hd (h.keep (fun q hq => hb.cell (hS _ hq))) (fun g hg => Nat.lt_of_lt_of_le (hS g hg) hb.size))
        obtain ⟨z, hz⟩ : ∃ z, (encS (entOf ⟨#[97, 115, 107, 101, 100]⟩ (askedL i s n x b))).2 = z := ⟨_, rfl⟩
        have HZ := Lib.hid hz
        have hlen : (askedL i s n x b).len = 5 := rfl
        by_cases hz0 : z = 0
        · have HCH := Lib.hid (fun (A1 A2 A3 : Option Addr) (n1 c1 n2 c2 n3 c3 : Nat) (A : Option Addr) (S' : Nat → Prop) (W : World) (hsl : SlI W S' A (askedL i s n x b)) (hS' : ∀ g, S' g → g < W.heap.size) => r56_changed sec A1 A2 A3 n1 c1 n2 c2 n3 c3 ⟨#[97, 115, 107, 101, 100]⟩ (askedL i s n x b) A 5 S' W (by unfold askedL; simp [Its.size]) hsl hS' HLE.out (hz.trans hz0))
          rw [hlen] at HCH
          subst hz0
          clear h hS ho hq hn hu hsz hac hz hlen
          go_enter Tryz.func46, Tryz.ntmps46
          go_upto_region 3 with (first
            | (go_at_call 28; (with_reducible refine (HV.out _ HB0.out.bel).mono ?_); rintro e w1 ⟨rfl, hb1⟩; have HB1 := Lib.hid (HB0.out.next hb1); have hb2 : BxB w sec Aa na ca Ah nh ch Au nu cu #[.string i, .string s, .string n, .string x, .string b] 40 (w1.alloc (.cells #[.string x, .string b] 22)) := HB1.out.next ((Below.refl _ _).alloc (Nat.le_refl _) _); have HB2 := Lib.hid hb2; obtain ⟨q0, q1, q2, q3, q4⟩ := HAC.out _ HB1.out; clear hb1 hb2)
            | (go_at_call 71; (with_reducible refine (HCAN.out _).mono ?_); rintro e w2 ⟨rfl, rfl⟩))
          clear q0 q1 q2 q3 q4
          obtain ⟨w2, hw2⟩ : ∃ w2, w1.alloc (.cells #[.string x, .string b] 22) = w2 := ⟨_, rfl⟩
          rw [hw2] at HB2 ⊢
          clear hw2
          obtain ⟨q0, q1, q2, q3, q4⟩ := HAC.out _ HB2.out
          obtain ⟨⟨x0, x1, x2, x3⟩, -⟩ := HB2.out.bc
          go_upto_region 4 with (go_at_call 34; (with_reducible refine (HASK.out _ HB2.out.bel).mono ?_); rintro e w3 ⟨A1, n1, c1, A2, n2, c2, A3, n3, c3, rfl, l1, l2, l3, hm3, hb3⟩; have HD := Lib.hid (AqR.start (S := S) (sec' := sec) (n1 := n1) (c1 := c1) (n2 := n2) (c2 := c2) (n3 := n3) (c3 := c3) HSS.out HB2.out hb3 hm3); have HL := Lib.hid (And.intro l1 (And.intro l2 l3)); clear hb3 hm3 l1 l2 l3)
          clear q0 q1 q2 q3 q4 x0 x1 x2 x3
          obtain ⟨w4, hw4⟩ : ∃ w4, w3.alloc (.cells #[.string sec, .slice A1 n1 c1, .slice A2 n2 c2, .slice A3 n3 c3] 27) = w4 := ⟨_, rfl⟩
          rw [hw4] at HD ⊢
          clear hw4
          obtain ⟨b7, hb7⟩ : ∃ b, w3.heap.size = b := ⟨_, rfl⟩
          rw [hb7] at HD
          rw [hb7]
          clear hb7
          obtain ⟨q0, q1, q2, q3, q4⟩ := HAC.out _ HD.out.bx
          obtain ⟨x0, x1, x2, x3⟩ := HD.out.wc
          go_region_with (first
            | (go_at_call 82; (with_reducible refine (HIT.out _).mono ?_); rintro e w5 ⟨A5, rfl, hsl5, hb5⟩; have HD5 := Lib.hid (show AqR S w sec Aa na ca Ah nh ch Au nu cu #[.string i, .string s, .string n, .string x, .string b] 40 sec (qs ++ [(i, s, n, x, b)]) hs us A1 n1 c1 A2 n2 c2 A3 n3 c3 b7 w5 from by { first | exact HD.out.next hb5 | exact HD.out.drew.next hb5 }); have HS5 := Lib.hid (HCH.out A1 A2 A3 n1 c1 n2 c2 n3 c3 A5 _ w5 hsl5 (fun g hg => hg.2)); obtain ⟨y0, y1, y2, y3⟩ := HD5.out.wc; clear hsl5 hb5)
            | (go_at_call 81; (with_reducible refine HS5.out.mono ?_); rintro e w6 ⟨rfl, hb6⟩; have HD6 := Lib.hid (HD5.out.next hb6); obtain ⟨⟨r0, r1, r2, r3⟩, g0, g1, g2, g3⟩ := HD6.out.bx.rc; clear hb6))
          all_goals
            go_wp2_with fail
            have HF := HD6.out.fin (.string sec) (.slice A1 n1 c1) (.slice A2 n2 c2) (.slice A3 n3 c3)
            refine bodyPost_ret (v := .tuple #[.agg #[.string sec, .slice A1 n1 c1, .slice A2 n2 c2, .slice A3 n3 c3], .string (encS (entOf ⟨#[97, 115, 107, 101, 100]⟩ (askedL i s n x b))).1, .int .i64 0]) (by simp [results, Tryz.results46, go_sem, r0, r1, r2, r3, entOf]) rfl ?_
            exact .inr ⟨hv, hc, hd, HZ.out, A1, n1, c1, A2, n2, c2, A3, n3, c3, rfl, HL.out.1, HL.out.2.1, HL.out.2.2, HF.1, HF.2⟩
        · have HCH := Lib.hid (fun (A1 A2 A3 : Option Addr) (n1 c1 n2 c2 n3 c3 : Nat) (A : Option Addr) (S' : Nat → Prop) (W : World) (hsl : SlI W S' A (askedL i s n x b)) (hS' : ∀ g, S' g → g < W.heap.size) => r56_changed_bad sec A1 A2 A3 n1 c1 n2 c2 n3 c3 ⟨#[97, 115, 107, 101, 100]⟩ (askedL i s n x b) A 5 S' W (by unfold askedL; simp [Its.size]) hsl hS' HLE.out z hz hz0)
          rw [hlen] at HCH
          have HZ0 := Lib.hid hz0
          have HZZ : Hid (askZ sec qs hs us i s n x b = z) := Lib.hid (by unfold askZ; rw [hv, hc, hd, ← hz]; rfl)
          clear h hS ho hq hn hu hv hsz hac hc hd hz hlen hz0
          go_enter Tryz.func46, Tryz.ntmps46
          go_upto_region 3 with (first
            | (go_at_call 28; (with_reducible refine (HV.out _ HB0.out.bel).mono ?_); rintro e w1 ⟨rfl, hb1⟩; have HB1 := Lib.hid (HB0.out.next hb1); have hb2 : BxB w sec Aa na ca Ah nh ch Au nu cu #[.string i, .string s, .string n, .string x, .string b] 40 (w1.alloc (.cells #[.string x, .string b] 22)) := HB1.out.next ((Below.refl _ _).alloc (Nat.le_refl _) _); have HB2 := Lib.hid hb2; obtain ⟨q0, q1, q2, q3, q4⟩ := HAC.out _ HB1.out; clear hb1 hb2)
            | (go_at_call 71; (with_reducible refine (HCAN.out _).mono ?_); rintro e w2 ⟨rfl, rfl⟩))
          clear q0 q1 q2 q3 q4
          obtain ⟨w2, hw2⟩ : ∃ w2, w1.alloc (.cells #[.string x, .string b] 22) = w2 := ⟨_, rfl⟩
          rw [hw2] at HB2 ⊢
          clear hw2
          obtain ⟨q0, q1, q2, q3, q4⟩ := HAC.out _ HB2.out
          obtain ⟨⟨x0, x1, x2, x3⟩, -⟩ := HB2.out.bc
          go_upto_region 4 with (go_at_call 34; (with_reducible refine (HASK.out _ HB2.out.bel).mono ?_); rintro e w3 ⟨A1, n1, c1, A2, n2, c2, A3, n3, c3, rfl, l1, l2, l3, hm3, hb3⟩; have HD := Lib.hid (AqR.start (S := S) (sec' := sec) (n1 := n1) (c1 := c1) (n2 := n2) (c2 := c2) (n3 := n3) (c3 := c3) HSS.out HB2.out hb3 hm3); have HL := Lib.hid (And.intro l1 (And.intro l2 l3)); clear hb3 hm3 l1 l2 l3)
          clear q0 q1 q2 q3 q4 x0 x1 x2 x3
          obtain ⟨w4, hw4⟩ : ∃ w4, w3.alloc (.cells #[.string sec, .slice A1 n1 c1, .slice A2 n2 c2, .slice A3 n3 c3] 27) = w4 := ⟨_, rfl⟩
          rw [hw4] at HD ⊢
          clear hw4
          obtain ⟨b7, hb7⟩ : ∃ b, w3.heap.size = b := ⟨_, rfl⟩
          rw [hb7] at HD
          rw [hb7]
          clear hb7
          obtain ⟨q0, q1, q2, q3, q4⟩ := HAC.out _ HD.out.bx
          obtain ⟨x0, x1, x2, x3⟩ := HD.out.wc
          go_region_with (first
            | (go_at_call 82; (with_reducible refine (HIT.out _).mono ?_); rintro e w5 ⟨A5, rfl, hsl5, hb5⟩; have HD5 := Lib.hid (show AqR S w sec Aa na ca Ah nh ch Au nu cu #[.string i, .string s, .string n, .string x, .string b] 40 sec (qs ++ [(i, s, n, x, b)]) hs us A1 n1 c1 A2 n2 c2 A3 n3 c3 b7 w5 from by { first | exact HD.out.next hb5 | exact HD.out.drew.next hb5 }); have HS5 := Lib.hid (HCH.out A1 A2 A3 n1 c1 n2 c2 n3 c3 A5 _ w5 hsl5 (fun g hg => hg.2)); obtain ⟨y0, y1, y2, y3⟩ := HD5.out.wc; clear hsl5 hb5)
            | (go_at_call 81; (with_reducible refine HS5.out.mono ?_); rintro e w6 ⟨rfl, hb6⟩; have HD6 := Lib.hid (HD5.out.next hb6); obtain ⟨⟨r0, r1, r2, r3⟩, g0, g1, g2, g3⟩ := HD6.out.bx.rc; clear hb6))
          all_goals
            go_wp2_with fail
            refine bodyPost_ret (v := .tuple #[.agg #[.string ⟨#[]⟩, .slice none 0 0, .slice none 0 0, .slice none 0 0], .string ⟨#[]⟩, .int .i64 z]) (by simp [results, Tryz.results46, go_sem, r0, r1, r2, r3]) rfl ?_
            exact .inl ⟨z, HZ0.out, HZZ.out, rfl, HD6.out.bx.zero _ _ _ _⟩
theorem r56_ask_gotR (sec : ByteArray) (qs : List Az) (hs : List Hz) (us : List Uz) (Aa Ah Au : Option Addr) (na ca nh ch nu cu : Nat) (S : Nat → Prop) (w : World) (ho : WalOk qs hs us) (hq : qs.length = na) (hn : hs.length = nh) (hu : us.length = nu) (h : WalM w S qs hs us Aa Ah Au) (hS : ∀ g, S g → g < w.heap.size) (i s n x b : ByteArray) (hsz : i.size + s.size + n.size + x.size + b.size ≤ 100000) :
    Calls Tryz.prog 46 #[.agg #[.string sec, .slice Aa na ca, .slice Ah nh ch, .slice Au nu cu], .agg #[.string i, .string s, .string n, .string x, .string b]] w (GotR3 S w (askR sec qs hs us i s n x b)) := by
  refine (r56_Ask sec qs hs us Aa Ah Au na ca nh ch nu cu i s n x b S w hq hn hu ho hsz h hS).mono fun o w' hg => ?_
  rcases hg with ⟨z, hz, hzz, hg⟩ | ⟨hv, hc, hno, hok, hg⟩
  · unfold askR
    rw [hzz, if_neg hz]
    exact gotR3_err hg
  · unfold askR
    rw [show askZ sec qs hs us i s n x b = 0 by unfold askZ; rw [hv, hc, hno, ← hok]; rfl, if_pos rfl]
    exact gotS3_good hg
end Go.Proofs.YtjhlddlocpkhkaaGreat
