/- The walks of package coins: draw in general, Below. -/
import Derived.Test.YtfggpgiinihflaaDoorY6
namespace Go.Proofs.YtfggpgiinihflaaDoor
open Go.RowKit
set_option maxRecDepth 100000
set_option linter.unusedVariables false
set_option maxHeartbeats 4000000

/-- What a draw hands back: the coin and the next tape, or the error. -/
def drawPost (d : Int × Nat) (n : Nat) (seed : ByteArray) (z : Int) (vals : List ByteArray) (e : Ending) (w' : World) : Prop :=
  (d.1 = 0 ∧ ∃ g, e = .returned (.tuple #[.string (B d.2), .agg #[.slice (some ⟨g, 0, none⟩) n n, .string seed, .int .i64 (z + 1)], .int .i64 0]) ∧ SLs w' w'.heap.size (some ⟨g, 0, none⟩) vals) ∨
  (d.1 ≠ 0 ∧ e = .returned (.tuple #[.string ⟨#[]⟩, .agg #[.slice none 0 0, .string ⟨#[]⟩, .int .i64 0], .int .i64 d.1]))
theorem good_parts {vals : List ByteArray} {z : Int} (h : goodT vals z = true) : 0 ≤ z ∧ z ≤ 2147483647 ∧ vals.all valid = true := by
  unfold goodT at h
  simpa using h
theorem coins_draw (vals : List ByteArray) (A : Option Addr) (n c : Nat) (seed : ByteArray) (z : Int) (m : Nat) (w : World) (hn : vals.length = n) (hm : n ≤ 1000) (h : SLs w w.heap.size A vals) (hg : goodT vals z = true)
    (hm0 : 1 ≤ m) (hm1 : m < 18446744073709551616) (hs : seed.size ≤ 100000) (hT : Tab10 w) :
    Calls Tryd.prog 29 #[.agg #[.slice A n c, .string seed, .int .i64 z], .string (B m)] w fun e w' => drawPost (drawS vals seed z m) n seed z vals e w' ∧ Below w.heap.size w w' := by
  obtain ⟨h0, h1, hall⟩ := good_parts hg
  by_cases hz : z < (n : Int)
  · obtain ⟨k, rfl⟩ : ∃ k : Nat, z = (k : Int) := ⟨z.toNat, by omega⟩
    have hk : k < n := by omega
    have hvalid : valid (vals.getD k ByteArray.empty) = true := by
      rw [List.all_eq_true] at hall
      rw [sgetD_lt (by omega)]
      exact hall _ (List.getElem_mem _)
    have hv := (B_num hvalid).symm
    have hv1 := valid_num_lt hvalid
    have hd : drawS vals seed (k : Int) m = if m ≤ num (vals.getD k ByteArray.empty) then (2, 0) else (0, num (vals.getD k ByteArray.empty)) := by
      unfold drawS
      rw [if_pos (by rw [hn]; exact hz)]
      rfl
    by_cases hvm : m ≤ num (vals.getD k ByteArray.empty)
    · rw [hd, if_pos hvm]
      refine (draw_high vals A n c seed k _ m w hn hm h hk hv hv1 hvm hm1).mono ?_
      rintro e w' ⟨rfl, hb⟩
      exact ⟨.inr ⟨by decide, rfl⟩, hb⟩
    · rw [hd, if_neg hvm]
      refine (draw_value vals A n c seed k _ m w hn hm h hk hv hv1 (by omega) hm1 hs).mono ?_
      rintro e w' ⟨⟨g, rfl, hg⟩, hb⟩
      exact ⟨.inl ⟨rfl, g, rfl, hg⟩, hb⟩
  · by_cases hq : seed.toList.isEmpty = true ∨ z = 2147483647
    · have hd : drawS vals seed z m = (14, 0) := by unfold drawS; rw [if_neg (by rw [hn]; exact hz), if_pos hq]
      rw [hd]
      refine (draw_none vals A n c seed z m w hm (by omega) hq).mono ?_
      rintro e w' ⟨rfl, hb⟩
      exact ⟨.inr ⟨by decide, rfl⟩, hb⟩
    · have he : seed.toList.isEmpty = false := by
        cases hh : seed.toList.isEmpty
        · rfl
        · exact absurd (.inl hh) hq
      refine (draw_seed vals A n c seed z m w hn hm h (by omega) (by have : z ≠ 2147483647 := fun e => hq (.inr e); omega) he hm0 hm1 hs hT).mono ?_
      rintro e w' ⟨hp, hb⟩
      refine ⟨?_, hb⟩
      unfold drawS
      rw [if_neg (by rw [hn]; exact hz), if_neg hq]
      cases ht : tryF seed z m with
      | some x =>
        rw [ht] at hp
        obtain ⟨g, rfl, hg⟩ := hp
        exact .inl ⟨rfl, g, rfl, hg⟩
      | none =>
        rw [ht] at hp
        have hp' : e = .returned (.tuple #[.string ⟨#[]⟩, .agg #[.slice none 0 0, .string ⟨#[]⟩, .int .i64 0], .int .i64 14]) := hp
        subst hp'
        exact .inr ⟨by decide, rfl⟩
/-- A tape in its box, and the box of the result. -/
structure AtB (w wx : World) (A : Option Addr) (n c : Nat) (seed : ByteArray) (z : Int) : Prop where
  t0 : wx.cell? ⟨w.heap.size, 0, none⟩ = some (.slice A n c)
  t1 : wx.cell? ⟨w.heap.size, 1, none⟩ = some (.string seed)
  t2 : wx.cell? ⟨w.heap.size, 2, none⟩ = some (.int .i64 z)
  r : wx.heap[w.heap.size + 1]? = some (.cells #[.slice none 0 0, .string ⟨#[]⟩, .int .i64 0] 24 (0, 0))
  bel : Below w.heap.size w wx
theorem AtB.start (w : World) (A : Option Addr) (n c : Nat) (seed : ByteArray) (z : Int) : AtB w ((w.alloc (.cells #[.slice A n c, .string seed, .int .i64 z] 24)).alloc (.cells #[.slice none 0 0, .string ⟨#[]⟩, .int .i64 0] 24)) A n c seed z :=
  ⟨by simp [go_sem], by simp [go_sem], by simp [go_sem], by have := heap_alloc_new (w.alloc (.cells #[.slice A n c, .string seed, .int .i64 z] 24)) (.cells #[.slice none 0 0, .string ⟨#[]⟩, .int .i64 0] 24); rwa [World.size_alloc] at this, below_res w _ _⟩
section
variable {w wx wy : World} {A : Option Addr} {n c : Nat} {seed : ByteArray} {z : Int} {x y t : Value}
theorem AtB.next (h : AtB w wx A n c seed z) (hb : Below wx.heap.size wx wy) : AtB w wy A n c seed z := by
  have lr : w.heap.size + 1 < wx.heap.size := (Array.getElem?_eq_some_iff.1 h.r).1
  exact ⟨(hb.cell (p := ⟨w.heap.size, 0, none⟩) (by show w.heap.size < _; omega)).trans h.t0, (hb.cell (p := ⟨w.heap.size, 1, none⟩) (by show w.heap.size < _; omega)).trans h.t1, (hb.cell (p := ⟨w.heap.size, 2, none⟩) (by show w.heap.size < _; omega)).trans h.t2,
    (hb.block _ lr).trans h.r, h.bel.trans (hb.mono (by omega))⟩
theorem AtB.r0 (h : AtB w wx A n c seed z) : wx.cell? ⟨w.heap.size + 1, 0, none⟩ = some (.slice none 0 0) ∧ wx.cell? ⟨w.heap.size + 1, 1, none⟩ = some (.string ⟨#[]⟩) ∧ wx.cell? ⟨w.heap.size + 1, 2, none⟩ = some (.int .i64 0) ∧
    wx.frozen? ⟨w.heap.size + 1, 0, none⟩ = false ∧ wx.frozen? ⟨w.heap.size + 1, 1, none⟩ = false ∧ wx.frozen? ⟨w.heap.size + 1, 2, none⟩ = false := by
  refine ⟨?_, ?_, ?_, ?_, ?_, ?_⟩ <;> simp [World.cell?, World.frozen?, h.r]
theorem AtB.bel3 (h : AtB w wx A n c seed z) : Below w.heap.size w (((wx.setCell ⟨w.heap.size + 1, 0, none⟩ x).setCell ⟨w.heap.size + 1, 1, none⟩ y).setCell ⟨w.heap.size + 1, 2, none⟩ t) := by
  have le : w.heap.size ≤ w.heap.size + 1 := Nat.le_succ _
  exact ((h.bel.setCell (p := ⟨w.heap.size + 1, 0, none⟩) le x).setCell (p := ⟨w.heap.size + 1, 1, none⟩) le y).setCell (p := ⟨w.heap.size + 1, 2, none⟩) le t
theorem AtB.keepS {g : Nat} {vals : List ByteArray} (h : AtB w wx A n c seed z) (hs : SLs wx wx.heap.size (some ⟨g, 0, none⟩) vals) :
    SLs (((wx.setCell ⟨w.heap.size + 1, 0, none⟩ x).setCell ⟨w.heap.size + 1, 1, none⟩ y).setCell ⟨w.heap.size + 1, 2, none⟩ t) (((wx.setCell ⟨w.heap.size + 1, 0, none⟩ x).setCell ⟨w.heap.size + 1, 1, none⟩ y).setCell ⟨w.heap.size + 1, 2, none⟩ t).heap.size (some ⟨g, 0, none⟩) vals := by
  intro hne
  obtain ⟨ad, e, hb, hc⟩ := hs hne
  injection e with e
  subst e
  have h0 := hc 0 (List.length_pos_iff.mpr hne)
  rw [addr_add] at h0
  have hg : w.heap.size + 1 ≠ g := by
    intro e
    have := h.r0.1
    rw [e] at this
    rw [show 0 + 0 = 0 from rfl, this] at h0
    cases h0
  refine ⟨_, rfl, by simpa using hb, fun j hj => ?_⟩
  have hj' := hc j hj
  rw [addr_add] at hj' ⊢
  exact hop3 (by show w.heap.size + 1 ≠ g; exact hg) hj'
end
theorem readyT_bad {vals : List ByteArray} {z : Int} {m : ByteArray} (h : goodT vals z = false) : readyT vals z m = 3 := by unfold readyT; rw [h]; rfl
theorem readyT_good {vals : List ByteArray} {z : Int} {m : Nat} (h : goodT vals z = true) (hm0 : 1 ≤ m) (hm1 : m < lim) : readyT vals z (B m) = 0 := by
  unfold readyT
  rw [h, valid_B hm1, B_isEmpty_false (by omega)]
  rfl
/-- A draw below m from a tape. -/
def belowS (vals : List ByteArray) (seed : ByteArray) (z : Int) (m : Nat) : Int × Nat := if goodT vals z = true then drawS vals seed z m else (3, 0)
theorem coins_Below (vals : List ByteArray) (A : Option Addr) (n c : Nat) (seed : ByteArray) (z : Int) (m : Nat) (w : World) (hn : vals.length = n) (hm : n ≤ 1000) (h : SLs w w.heap.size A vals)
    (hm0 : 1 ≤ m) (hm1 : m < 18446744073709551616) (hs : seed.size ≤ 100000) (hT : Tab10 w) :
    Calls Tryd.prog 41 #[.agg #[.slice A n c, .string seed, .int .i64 z], .string (B m)] w fun e w' => drawPost (belowS vals seed z m) n seed z vals e w' ∧ Below w.heap.size w w' := by
  have hb0 : Below w.heap.size w ((w.alloc (.cells #[.slice A n c, .string seed, .int .i64 z] 24)).alloc (.cells #[.slice none 0 0, .string ⟨#[]⟩, .int .i64 0] 24)) := below_res w _ _
  have KR := Lib.hid (coins_ready vals A n c w.heap.size seed (B m) z _ hn (by omega) (h.below hb0) hb0.size)
  have HB0 := Lib.hid hb0
  have HN := Lib.hid hn
  have HS := Lib.hid h
  have HT := Lib.hid hT
  have HA0 := Lib.hid (AtB.start w A n c seed z)
  cases hg : goodT vals z
  · rw [readyT_bad hg] at KR
    have hd : belowS vals seed z m = (3, 0) := by unfold belowS; rw [hg]; rfl
    rw [hd]
    clear hb0 hn h hT hd hg
    go_enter Tryd.func41, Tryd.ntmps41
    go_wp2_with (first | (go_at_call 28; (with_reducible refine KR.out.mono ?_); rintro e w1 ⟨rfl, hb1⟩
                          have HA1 := Lib.hid (HA0.out.next hb1)
                          obtain ⟨r0, r1, r2, g0, g1, g2⟩ := HA1.out.r0
                          clear hb1))
    exact bodyPost_ret (v := .tuple #[.string ⟨#[]⟩, .agg #[.slice none 0 0, .string ⟨#[]⟩, .int .i64 0], .int .i64 3]) (by simp [results, Tryd.results41, go_sem, r0, r1, r2]) rfl ⟨.inr ⟨by decide, rfl⟩, HA1.out.bel3⟩
  · rw [readyT_good hg hm0 (Nat.lt_trans hm1 (by decide))] at KR
    have hd : belowS vals seed z m = drawS vals seed z m := by unfold belowS; rw [hg]; rfl
    rw [hd]
    have KD := Lib.hid (fun wq (h1 : Below w.heap.size w wq) => coins_draw vals A n c seed z m wq hn hm ((h.below h1).more h1.size) hg hm0 hm1 hs (hT.below h1))
    obtain ⟨d, hdd⟩ : ∃ d, d = drawS vals seed z m := ⟨_, rfl⟩
    rw [← hdd] at KD ⊢
    clear hb0 hn h hT hd hg hdd
    by_cases h0 : d.1 = 0
    · have KE : Hid (∀ wq, Below w.heap.size w wq → Calls Tryd.prog 29 #[.agg #[.slice A n c, .string seed, .int .i64 z], .string (B m)] wq fun e w' => (∃ g, e = .returned (.tuple #[.string (B d.2), .agg #[.slice (some ⟨g, 0, none⟩) n n, .string seed, .int .i64 (z + 1)], .int .i64 0]) ∧ SLs w' w'.heap.size (some ⟨g, 0, none⟩) vals) ∧ Below wq.heap.size wq w') := Lib.hid (fun wq h1 => (KD.out wq h1).mono (by
        rintro e w' ⟨⟨_, hp⟩ | ⟨h, _⟩, hb⟩
        · exact ⟨hp, hb⟩
        · exact absurd h0 h))
      have H0 := Lib.hid h0
      clear h0 KD
      go_enter Tryd.func41, Tryd.ntmps41
      go_wp2_with (first
        | (go_at_call 28; (with_reducible refine KR.out.mono ?_); rintro e w1 ⟨rfl, hb1⟩
           have HA1 := Lib.hid (HA0.out.next hb1)
           have t0 := HA1.out.t0
           have t1 := HA1.out.t1
           have t2 := HA1.out.t2
           clear hb1)
        | (go_at_call 29; (with_reducible refine (KE.out _ HA1.out.bel).mono ?_); rintro e w2 ⟨⟨g, rfl, hsl⟩, hb2⟩
           have HA2 := Lib.hid (HA1.out.next hb2)
           have HSL := Lib.hid hsl
           obtain ⟨r0, r1, r2, g0, g1, g2⟩ := HA2.out.r0
           clear hb2 hsl))
      refine bodyPost_ret (v := .tuple #[.string (B d.2), .agg #[.slice (some ⟨g, 0, none⟩) n n, .string seed, .int .i64 (z + 1)], .int .i64 0]) (by simp [results, Tryd.results41, go_sem, r0, r1, r2]) rfl ⟨.inl ⟨H0.out, g, rfl, ?_⟩, HA2.out.bel3⟩
      exact HA2.out.keepS HSL.out
    · have KE : Hid (∀ wq, Below w.heap.size w wq → Calls Tryd.prog 29 #[.agg #[.slice A n c, .string seed, .int .i64 z], .string (B m)] wq fun e w' => e = .returned (.tuple #[.string ⟨#[]⟩, .agg #[.slice none 0 0, .string ⟨#[]⟩, .int .i64 0], .int .i64 d.1]) ∧ Below wq.heap.size wq w') := Lib.hid (fun wq h1 => (KD.out wq h1).mono (by
        rintro e w' ⟨⟨h, _⟩ | ⟨_, hp⟩, hb⟩
        · exact absurd h h0
        · exact ⟨hp, hb⟩))
      have H0 := Lib.hid h0
      clear h0 KD
      go_enter Tryd.func41, Tryd.ntmps41
      go_wp2_with (first
        | (go_at_call 28; (with_reducible refine KR.out.mono ?_); rintro e w1 ⟨rfl, hb1⟩
           have HA1 := Lib.hid (HA0.out.next hb1)
           have t0 := HA1.out.t0
           have t1 := HA1.out.t1
           have t2 := HA1.out.t2
           clear hb1)
        | (go_at_call 29; (with_reducible refine (KE.out _ HA1.out.bel).mono ?_); rintro e w2 ⟨rfl, hb2⟩
           have HA2 := Lib.hid (HA1.out.next hb2)
           obtain ⟨r0, r1, r2, g0, g1, g2⟩ := HA2.out.r0
           clear hb2))
      exact bodyPost_ret (v := .tuple #[.string ⟨#[]⟩, .agg #[.slice none 0 0, .string ⟨#[]⟩, .int .i64 0], .int .i64 d.1]) (by simp [results, Tryd.results41, go_sem, r0, r1, r2]) rfl ⟨.inr ⟨H0.out, rfl⟩, HA2.out.bel3⟩

end Go.Proofs.YtfggpgiinihflaaDoor
