/- rsagroup.Square on both sides: what it draws, and the walk of wellFormed. -/
import Derived.Test.YteifbhmfjchfjaaGreatDoorCF
import Derived.Test.YteifbhmfjchfjaaGreatDoorBM
import Derived.Test.YteifbhmfjchfjaaGreatDoorYG
namespace Go.Proofs.YteifbhmfjchfjaaGreatDoor
open Go.RowKit
set_option maxRecDepth 100000
set_option linter.unusedVariables false
set_option maxHeartbeats 4000000

/-- The search for a square. -/
def squL (vals : List ByteArray) (seed m o : ByteArray) : Nat → Int → Int × Nat × Int
  | 0, _ => (14, 0, 0)
  | k + 1, z => if (belowS vals seed z (num m)).1 = 0 then (if hasS m o (B (belowS vals seed z (num m)).2) = true then (0, (belowS vals seed z (num m)).2 * (belowS vals seed z (num m)).2 % num m, z + 1) else squL vals seed m o k (z + 1)) else ((belowS vals seed z (num m)).1, 0, 0)
/-- What Square hands back: the error, the number, where the tape then stands. -/
def squD (vals : List ByteArray) (seed m o : ByteArray) (z : Int) : Int × Nat × Int :=
  if (valid m && valid o) && goodT vals z then (if goodS m o = true then squL vals seed m o 64 z else (13, 0, 0)) else (3, 0, 0)
theorem squL_err {vals : List ByteArray} {seed m o : ByteArray} {k : Nat} {z : Int} (h : (belowS vals seed z (num m)).1 ≠ 0) : squL vals seed m o (k + 1) z = ((belowS vals seed z (num m)).1, 0, 0) := by rw [squL, if_neg h]
theorem squL_hit {vals : List ByteArray} {seed m o : ByteArray} {k : Nat} {z : Int} (h : (belowS vals seed z (num m)).1 = 0) (hx : hasS m o (B (belowS vals seed z (num m)).2) = true) :
    squL vals seed m o (k + 1) z = (0, (belowS vals seed z (num m)).2 * (belowS vals seed z (num m)).2 % num m, z + 1) := by rw [squL, if_pos h, if_pos hx]
theorem squL_on {vals : List ByteArray} {seed m o : ByteArray} {k : Nat} {z : Int} (h : (belowS vals seed z (num m)).1 = 0) (hx : hasS m o (B (belowS vals seed z (num m)).2) = false) :
    squL vals seed m o (k + 1) z = squL vals seed m o k (z + 1) := by rw [squL, if_pos h, hx, if_neg (by decide)]
/-- The boxes of Square: the group, the tape, the result. -/
structure SqB (w wx : World) (m o : ByteArray) (A : Option Addr) (n c : Nat) (seed : ByteArray) (z : Int) : Prop where
  g0 : wx.cell? ⟨w.heap.size, 0, none⟩ = some (.string m)
  g1 : wx.cell? ⟨w.heap.size, 1, none⟩ = some (.string o)
  t0 : wx.cell? ⟨w.heap.size + 1, 0, none⟩ = some (.slice A n c)
  t1 : wx.cell? ⟨w.heap.size + 1, 1, none⟩ = some (.string seed)
  t2 : wx.cell? ⟨w.heap.size + 1, 2, none⟩ = some (.int .i64 z)
  f0 : wx.frozen? ⟨w.heap.size + 1, 0, none⟩ = false
  f1 : wx.frozen? ⟨w.heap.size + 1, 1, none⟩ = false
  f2 : wx.frozen? ⟨w.heap.size + 1, 2, none⟩ = false
  r : wx.heap[w.heap.size + 1 + 1]? = some (.cells #[.slice none 0 0, .string ⟨#[]⟩, .int .i64 0] 24 (0, 0))
  bel : Below w.heap.size w wx
section
variable {w wx wy : World} {m o : ByteArray} {A : Option Addr} {n c : Nat} {seed : ByteArray} {z : Int} {x y t : Value}
theorem SqB.lt (h : SqB w wx m o A n c seed z) : w.heap.size + 1 + 1 < wx.heap.size := (Array.getElem?_eq_some_iff.1 h.r).1
theorem SqB.start (w : World) (m o : ByteArray) (A : Option Addr) (n c : Nat) (seed : ByteArray) (z : Int) :
    SqB w (((w.alloc (.cells #[.string m, .string o] 37)).alloc (.cells #[.slice A n c, .string seed, .int .i64 z] 24)).alloc (.cells #[.slice none 0 0, .string ⟨#[]⟩, .int .i64 0] 24)) m o A n c seed z :=
  ⟨by simp [go_sem], by simp [go_sem], by simp [go_sem], by simp [go_sem], by simp [go_sem], by simp [go_sem], by simp [go_sem], by simp [go_sem], by
    have := heap_alloc_new ((w.alloc (.cells #[.string m, .string o] 37)).alloc (.cells #[.slice A n c, .string seed, .int .i64 z] 24)) (.cells #[.slice none 0 0, .string ⟨#[]⟩, .int .i64 0] 24)
    rwa [World.size_alloc, World.size_alloc] at this, (below_res w _ _).alloc (by simp; omega) _⟩
theorem SqB.next (h : SqB w wx m o A n c seed z) (hb : Below wx.heap.size wx wy) : SqB w wy m o A n c seed z := by
  have lr := h.lt
  have l0 : w.heap.size < wx.heap.size := by omega
  have l1 : w.heap.size + 1 < wx.heap.size := by omega
  exact ⟨(hb.cell (p := ⟨w.heap.size, 0, none⟩) l0).trans h.g0, (hb.cell (p := ⟨w.heap.size, 1, none⟩) l0).trans h.g1, (hb.cell (p := ⟨w.heap.size + 1, 0, none⟩) l1).trans h.t0, (hb.cell (p := ⟨w.heap.size + 1, 1, none⟩) l1).trans h.t1, (hb.cell (p := ⟨w.heap.size + 1, 2, none⟩) l1).trans h.t2,
    (hb.frozen (p := ⟨w.heap.size + 1, 0, none⟩) l1).trans h.f0, (hb.frozen (p := ⟨w.heap.size + 1, 1, none⟩) l1).trans h.f1, (hb.frozen (p := ⟨w.heap.size + 1, 2, none⟩) l1).trans h.f2, (hb.block _ lr).trans h.r, h.bel.trans (hb.mono (by omega))⟩
theorem SqB.box (h : SqB w wx m o A n c seed z) (ob : Obj) : SqB w (wx.alloc ob) m o A n c seed z := h.next ((Below.refl _ _).alloc (Nat.le_refl _) _)
theorem SqB.drew (h : SqB w wx m o A n c seed z) : SqB w wx.drew m o A n c seed z := h.next (Below.refl _ _).drew
theorem SqB.r0 (h : SqB w wx m o A n c seed z) : wx.cell? ⟨w.heap.size + 1 + 1, 0, none⟩ = some (.slice none 0 0) ∧ wx.cell? ⟨w.heap.size + 1 + 1, 1, none⟩ = some (.string ⟨#[]⟩) ∧ wx.cell? ⟨w.heap.size + 1 + 1, 2, none⟩ = some (.int .i64 0) ∧
    wx.frozen? ⟨w.heap.size + 1 + 1, 0, none⟩ = false ∧ wx.frozen? ⟨w.heap.size + 1 + 1, 1, none⟩ = false ∧ wx.frozen? ⟨w.heap.size + 1 + 1, 2, none⟩ = false := by
  refine ⟨?_, ?_, ?_, ?_, ?_, ?_⟩ <;> simp [World.cell?, World.frozen?, h.r]
theorem SqB.bel3 (h : SqB w wx m o A n c seed z) : Below w.heap.size w (((wx.setCell ⟨w.heap.size + 1 + 1, 0, none⟩ x).setCell ⟨w.heap.size + 1 + 1, 1, none⟩ y).setCell ⟨w.heap.size + 1 + 1, 2, none⟩ t) := by
  have le : w.heap.size ≤ w.heap.size + 1 + 1 := Nat.le_add_right _ 2
  exact ((h.bel.setCell (p := ⟨w.heap.size + 1 + 1, 0, none⟩) le x).setCell (p := ⟨w.heap.size + 1 + 1, 1, none⟩) le y).setCell (p := ⟨w.heap.size + 1 + 1, 2, none⟩) le t
theorem SqB.put {A' : Option Addr} {n' c' : Nat} {seed' : ByteArray} {z' : Int} (h : SqB w wx m o A n c seed z) :
    SqB w (((wx.setCell ⟨w.heap.size + 1, 0, none⟩ (.slice A' n' c')).setCell ⟨w.heap.size + 1, 1, none⟩ (.string seed')).setCell ⟨w.heap.size + 1, 2, none⟩ (.int .i64 z')) m o A' n' c' seed' z' := by
  have le : w.heap.size ≤ w.heap.size + 1 := Nat.le_succ _
  have fr : ∀ k, (((wx.setCell ⟨w.heap.size + 1, 0, none⟩ (.slice A' n' c')).setCell ⟨w.heap.size + 1, 1, none⟩ (.string seed')).setCell ⟨w.heap.size + 1, 2, none⟩ (.int .i64 z')).frozen? ⟨w.heap.size + 1, k, none⟩ = wx.frozen? ⟨w.heap.size + 1, k, none⟩ := fun k => by
    rw [World.frozen?_setCell, World.frozen?_setCell, World.frozen?_setCell]
  refine ⟨hop3 (by simp) h.g0, hop3 (by simp) h.g1, ?_, ?_, ?_, (fr 0).trans h.f0, (fr 1).trans h.f1, (fr 2).trans h.f2, ?_, ?_⟩
  · exact (World.cell?_setCell_other _ _ _ _ (by simp)).trans ((World.cell?_setCell_other _ _ _ _ (by simp)).trans (World.cell?_setCell_same _ _ _ h.t0))
  · exact (World.cell?_setCell_other _ _ _ _ (by simp)).trans (World.cell?_setCell_same _ _ _ ((World.cell?_setCell_other _ _ _ _ (by simp)).trans h.t1))
  · exact World.cell?_setCell_same _ _ _ ((World.cell?_setCell_other _ _ _ _ (by simp)).trans ((World.cell?_setCell_other _ _ _ _ (by simp)).trans h.t2))
  · have hp : ∀ k, w.heap.size + 1 + 1 ≠ (⟨w.heap.size + 1, k, none⟩ : Addr).block := fun k => by show w.heap.size + 1 + 1 ≠ w.heap.size + 1; omega
    exact (Below.heap_setCell _ _ _ _ (hp 2)).trans ((Below.heap_setCell _ _ _ _ (hp 1)).trans ((Below.heap_setCell _ _ _ _ (hp 0)).trans h.r))
  · exact ((h.bel.setCell (p := ⟨w.heap.size + 1, 0, none⟩) le _).setCell (p := ⟨w.heap.size + 1, 1, none⟩) le _).setCell (p := ⟨w.heap.size + 1, 2, none⟩) le _
end
theorem coins_Many_bad (vals : List ByteArray) (A : Option Addr) (n c : Nat) (seed m : ByteArray) (z K : Int) (w : World) (hn : vals.length = n) (hm : n ≤ 1000) (h : SLs w w.heap.size A vals) (hg : goodT vals z = false) :
    Calls Tryz.prog 124 #[.agg #[.slice A n c, .string seed, .int .i64 z], .string m, .int .i64 K] w fun e w' => e = .returned (.tuple #[.slice none 0 0, .agg #[.slice none 0 0, .string ⟨#[]⟩, .int .i64 0], .int .i64 3]) ∧ Below w.heap.size w w' := by
  have KR := Lib.hid (fun wq (h1 : Below w.heap.size w wq) => coins_ready vals A n c w.heap.size seed m z wq hn (by omega) (h.below h1) h1.size)
  rw [readyT_bad hg] at KR
  have HA0 := Lib.hid (AtS.start w A n c seed z)
  clear hn hm h hg
  go_enter Tryz.func124, Tryz.ntmps124
  go_wp2_with (first
    | (go_at_call 157; (with_reducible refine (KR.out _ HA0.out.a.bel).mono ?_); rintro e w1 ⟨rfl, hb1⟩
       have HA1 := Lib.hid (HA0.out.next hb1)
       obtain ⟨r0, r1, r2, g0, g1, g2⟩ := HA1.out.a.r0
       clear hb1))
  exact bodyPost_ret (v := .tuple #[.slice none 0 0, .agg #[.slice none 0 0, .string ⟨#[]⟩, .int .i64 0], .int .i64 3]) (by simp [results, Tryz.results124, go_sem, r0, r1, r2]) rfl ⟨rfl, HA1.out.a.bel3⟩
theorem rsagroup_wellFormed (vals : List ByteArray) (A : Option Addr) (n c : Nat) (seed : ByteArray) (z : Int) (w : World) (hn : vals.length = n) (hm : n ≤ 1000) (h : SLs w w.heap.size A vals) (hs : seed.size ≤ 100000) (hT10 : Tab10 w) :
    Calls Tryz.prog 87 #[.agg #[.slice A n c, .string seed, .int .i64 z]] w fun e w' => e = .returned (.bool (goodT vals z)) ∧ Below w.heap.size w w' := by
  have KM : ∃ er : Int, (er != 3) = goodT vals z ∧ ∀ wq, Below w.heap.size w wq → Calls Tryz.prog 124 #[.agg #[.slice A n c, .string seed, .int .i64 z], .string (B 1), .int .i64 0] wq fun e w' => (∃ A' n' c' At ct sdt zt nt, e = .returned (.tuple #[.slice A' n' c', .agg #[.slice At nt ct, .string sdt, .int .i64 zt], .int .i64 er])) ∧ Below wq.heap.size wq w' := by
    cases hg : goodT vals z
    · refine ⟨3, rfl, fun wq h1 => (coins_Many_bad vals A n c seed (B 1) z 0 wq hn hm (h.to h1) hg).mono ?_⟩
      rintro e w' ⟨rfl, hb⟩
      exact ⟨⟨_, _, _, _, _, _, _, _, rfl⟩, hb⟩
    · refine ⟨0, rfl, fun wq h1 => (coins_Many vals A n c seed z 1 0 wq hn hm (h.to h1) hg (by decide) (by decide) hs (hT10.below h1) (by decide) (fun i hi => absurd hi (Nat.not_lt_zero _))).mono ?_⟩
      rintro e w' ⟨⟨A', c', At, ct, sdt, zt, nt, rfl, _⟩, hb⟩
      exact ⟨⟨_, _, _, _, _, _, _, _, rfl⟩, hb⟩
  obtain ⟨er, her, KM⟩ := KM
  have KM := Lib.hid KM
  have HA0 := Lib.hid (BoxT.start w A n c seed z)
  obtain ⟨gt, hgt⟩ : ∃ gt, gt = goodT vals z := ⟨_, rfl⟩
  rw [← hgt] at her ⊢
  have HER := Lib.hid her
  clear hn hm h hs hT10 hgt her
  obtain ⟨t0, t1, t2, hlt, _⟩ := HA0.out
  go_enter Tryz.func87, Tryz.ntmps87
  go_wp2_with fail
  go_region_held3 (fun w' => w'.cell? ⟨w.heap.size, 0, none⟩ = some (.slice A n c) ∧ w'.cell? ⟨w.heap.size, 1, none⟩ = some (.string seed) ∧ w'.cell? ⟨w.heap.size, 2, none⟩ = some (.int .i64 z)) (first | go_keep) (first
    | (go_at_call 153; (with_reducible refine (rsagroup_one _).mono ?_); rintro e w6 ⟨rfl, hb6⟩
       have HB6 : Hid (BoxT w w6 A n c seed z) := Lib.hid (by
         refine BoxT.next ?_ hb6
         repeat (first | with_reducible exact HA0.out | with_reducible refine BoxT.drew ?_ | with_reducible refine BoxT.alloc ?_ _))
       obtain ⟨t0, t1, t2, hlt6, _⟩ := HB6.out
       have D6 : w6.heap.size ≠ w.heap.size := by { omega }
       try (refine put1 (P := ZBox w6 (w.heap.size + 1)) (ZBox.of hb6 ?_ ?_) (fun NN => ?_); (focus (simp; done)); (focus (constructor <;> simp [go_sem])))
       clear hb6)
    | (go_at_call 124
       (with_reducible refine (KM.out _ (BoxT.bel (A := A) (n := n) (c := c) (seed := seed) (z := z) (by repeat (first | with_reducible exact HB6.out | with_reducible refine BoxT.drew ?_ | with_reducible refine BoxT.alloc ?_ _)))).mono ?_)
       rintro e w7 ⟨⟨A', n', c', At, ct, sdt, zt, nt, rfl⟩, hb7⟩
       have HB7 : Hid (BoxT w w7 A n c seed z) := Lib.hid (by
         refine BoxT.next ?_ hb7
         repeat (first | with_reducible exact HB6.out | with_reducible refine BoxT.drew ?_ | with_reducible refine BoxT.alloc ?_ _))
       obtain ⟨t0, t1, t2, hlt7, _⟩ := HB7.out
       have D7 : w7.heap.size ≠ w.heap.size := by { omega }
       try (refine put1 (P := Hid (ZBox w7 w6.heap.size ∧ w.heap.size ≤ w6.heap.size)) (Lib.hid ⟨ZBox.of hb7 ?_ ?_, HB6.out.bel.size⟩) (fun HNN => ?_); (focus (simp; done)); (focus (constructor <;> simp [go_sem])))
       try (refine put1 (P := Hid (ZBox w7 (w.heap.size + 1) ∧ w.heap.size ≤ w.heap.size + 1)) (Lib.hid ⟨ZBox.of hb7 (ZBox.lt (w := w6) ?_) ?_, Nat.le_succ _⟩) (fun HNN => ?_); assumption; assumption)
       try obtain ⟨N0, N1, N2, F0, F1, F2⟩ := HNN.out.1
       clear hb7))
  all_goals
    go_wp2_with fail
    first
      | exact bodyPost_ret (v := .bool (er != 3)) (by simp [results, Tryz.results87, go_sem]) rfl ⟨by rw [HER.out], HB7.out.bel.alloc HB7.out.bel.size _⟩
      | exact bodyPost_ret (v := .bool (er != 3)) (by simp [results, Tryz.results87, go_sem]) rfl ⟨by rw [HER.out], ((HB7.out.bel.setCell (by exact HNN.out.2) _).setCell (by exact HNN.out.2) _).setCell (by exact HNN.out.2) _⟩

end Go.Proofs.YteifbhmfjchfjaaGreatDoor
