/- The walks of package params: the search. The walks of package params: the search, with SafePrime's test. Written from Z3 by replacing the closure's name. The walks of package params: Prime. The walks of package params: SafePrime. -/
import Derived.Test.YtapplggboepfaaaGreatDoorZM1
namespace Go.Proofs.YtapplggboepfaaaGreatDoor
open Go.RowKit
set_option maxRecDepth 100000
set_option linter.unusedVariables false
set_option maxHeartbeats 4000000

theorem AtB.put {w wx : World} {A A' : Option Addr} {n c n' c' : Nat} {seed seed' : ByteArray} {z z' : Int} (h : AtB w wx A n c seed z) :
    AtB w (((wx.setCell ⟨w.heap.size, 0, none⟩ (.slice A' n' c')).setCell ⟨w.heap.size, 1, none⟩ (.string seed')).setCell ⟨w.heap.size, 2, none⟩ (.int .i64 z')) A' n' c' seed' z' := by
  refine ⟨?_, ?_, ?_, ?_, ?_⟩
  · refine (World.cell?_setCell_other _ _ _ _ (by simp)).trans ((World.cell?_setCell_other _ _ _ _ (by simp)).trans ?_)
    exact World.cell?_setCell_same _ _ _ h.t0
  · refine (World.cell?_setCell_other _ _ _ _ (by simp)).trans ?_
    exact World.cell?_setCell_same _ _ _ ((World.cell?_setCell_other _ _ _ _ (by simp)).trans h.t1)
  · exact World.cell?_setCell_same _ _ _ ((World.cell?_setCell_other _ _ _ _ (by simp)).trans ((World.cell?_setCell_other _ _ _ _ (by simp)).trans h.t2))
  · have hp : ∀ k, w.heap.size + 1 ≠ (⟨w.heap.size, k, none⟩ : Addr).block := fun k => Nat.succ_ne_self _
    exact (Below.heap_setCell _ _ _ _ (hp 2)).trans ((Below.heap_setCell _ _ _ _ (hp 1)).trans ((Below.heap_setCell _ _ _ _ (hp 0)).trans h.r))
  · exact ((h.bel.setCell (p := ⟨w.heap.size, 0, none⟩) (Nat.le_refl _) _).setCell (p := ⟨w.heap.size, 1, none⟩) (Nat.le_refl _) _).setCell (p := ⟨w.heap.size, 2, none⟩) (Nat.le_refl _) _
/-- The same, and the tape's box may be written. -/
structure AtS (w wx : World) (A : Option Addr) (n c : Nat) (seed : ByteArray) (z : Int) : Prop where
  a : AtB w wx A n c seed z
  f0 : wx.frozen? ⟨w.heap.size, 0, none⟩ = false
  f1 : wx.frozen? ⟨w.heap.size, 1, none⟩ = false
  f2 : wx.frozen? ⟨w.heap.size, 2, none⟩ = false
theorem AtS.start (w : World) (A : Option Addr) (n c : Nat) (seed : ByteArray) (z : Int) : AtS w ((w.alloc (.cells #[.slice A n c, .string seed, .int .i64 z] 30)).alloc (.cells #[.slice none 0 0, .string ⟨#[]⟩, .int .i64 0] 30)) A n c seed z :=
  ⟨AtB.start w A n c seed z, by simp [go_sem], by simp [go_sem], by simp [go_sem]⟩
theorem AtS.next {w wx wy : World} {A : Option Addr} {n c : Nat} {seed : ByteArray} {z : Int} (h : AtS w wx A n c seed z) (hb : Below wx.heap.size wx wy) : AtS w wy A n c seed z :=
  have lt : w.heap.size < wx.heap.size := cell_in (a := ⟨w.heap.size, 0, none⟩) h.a.t0
  ⟨h.a.next hb, (hb.frozen (p := ⟨w.heap.size, 0, none⟩) lt).trans h.f0, (hb.frozen (p := ⟨w.heap.size, 1, none⟩) lt).trans h.f1, (hb.frozen (p := ⟨w.heap.size, 2, none⟩) lt).trans h.f2⟩
theorem AtS.put {w wx : World} {A A' : Option Addr} {n c n' c' : Nat} {seed seed' : ByteArray} {z z' : Int} (h : AtS w wx A n c seed z) :
    AtS w (((wx.setCell ⟨w.heap.size, 0, none⟩ (.slice A' n' c')).setCell ⟨w.heap.size, 1, none⟩ (.string seed')).setCell ⟨w.heap.size, 2, none⟩ (.int .i64 z')) A' n' c' seed' z' :=
  ⟨h.a.put, (World.frozen?_setCell _ _ _ _).trans ((World.frozen?_setCell _ _ _ _).trans ((World.frozen?_setCell _ _ _ _).trans h.f0)), (World.frozen?_setCell _ _ _ _).trans ((World.frozen?_setCell _ _ _ _).trans ((World.frozen?_setCell _ _ _ _).trans h.f1)), (World.frozen?_setCell _ _ _ _).trans ((World.frozen?_setCell _ _ _ _).trans ((World.frozen?_setCell _ _ _ _).trans h.f2))⟩
theorem SLs.put {w : World} {g b k : Nat} {vals : List ByteArray} {x y t u : Value} (hs : SLs w k (some ⟨g, 0, none⟩) vals) (hb : w.cell? ⟨b, 0, none⟩ = some u) (hu : ∀ s, u ≠ .string s) :
    SLs (((w.setCell ⟨b, 0, none⟩ x).setCell ⟨b, 1, none⟩ y).setCell ⟨b, 2, none⟩ t) k (some ⟨g, 0, none⟩) vals := by
  intro hne
  obtain ⟨ad, e, hb', hc⟩ := hs hne
  injection e with e
  subst e
  have h0 := hc 0 (List.length_pos_iff.mpr hne)
  rw [addr_add] at h0
  have hg : b ≠ g := by
    intro e
    rw [e] at hb
    rw [show 0 + 0 = 0 from rfl, hb] at h0
    injection h0 with h0
    exact hu _ h0
  refine ⟨_, rfl, hb', fun j hj => ?_⟩
  have hj' := hc j hj
  rw [addr_add] at hj' ⊢
  exact hop3 (by show b ≠ g; exact hg) hj'

theorem SLs.last {w2 w4 : World} {o : Obj} {g b : Nat} {vals : List ByteArray} {x y t : Value} {u1 : Option Addr} {u2 u3 : Nat} (hs : SLs w2 w2.heap.size (some ⟨g, 0, none⟩) vals) (hb : (w2.alloc o).cell? ⟨b, 0, none⟩ = some (.slice u1 u2 u3))
    (h4 : Below ((((w2.alloc o).setCell ⟨b, 0, none⟩ x).setCell ⟨b, 1, none⟩ y).setCell ⟨b, 2, none⟩ t).heap.size ((((w2.alloc o).setCell ⟨b, 0, none⟩ x).setCell ⟨b, 1, none⟩ y).setCell ⟨b, 2, none⟩ t) w4) : SLs w4 w4.heap.size (some ⟨g, 0, none⟩) vals := by
  have hs3 : SLs (w2.alloc o) (w2.alloc o).heap.size (some ⟨g, 0, none⟩) vals := hs.to ((Below.refl _ _).alloc (Nat.le_refl _) _)
  have hs4 := SLs.put (x := x) (y := y) (t := t) hs3 hb (fun s h => by cases h)
  have e : ((((w2.alloc o).setCell ⟨b, 0, none⟩ x).setCell ⟨b, 1, none⟩ y).setCell ⟨b, 2, none⟩ t).heap.size = (w2.alloc o).heap.size := by simp
  rw [← e] at hs4
  exact hs4.to h4
theorem step64 {i : Nat} (h : i < 65536) : Value.int .i64 (wrap64 ((i : Int) + 1)) = .int .i64 ((i + 1 : Nat) : Int) := by
  rw [IntWalk.wrap64_in _ (by omega)]
  rfl
theorem wrapi {i : Nat} (h : i < 65536) : wrap64 ((i : Int) + 1) = (i : Int) + 1 := IntWalk.wrap64_in _ (by omega)
theorem measT {T i : Nat} (hT : i < T) (h : i < 65536) : T - (intOf (.int .i64 (wrap64 ((i : Int) + 1)))).toNat < T - (intOf (.int .i64 (i : Int))).toNat := by
  rw [wrapi h]
  simp only [intOf]
  omega
theorem zi_next {z zi : Int} {i : Nat} (h : zi = z + (i : Int)) : z + ((i + 1 : Nat) : Int) = zi + 1 := by omega
end Go.Proofs.YtapplggboepfaaaGreatDoor

namespace Go.Proofs.YtapplggboepfaaaGreatDoor
open Go.RowKit
set_option maxRecDepth 100000
set_option linter.unusedVariables false
set_option maxHeartbeats 4000000

end Go.Proofs.YtapplggboepfaaaGreatDoor

namespace Go.Proofs.YtapplggboepfaaaGreatDoor
open Go.RowKit
set_option maxRecDepth 100000
set_option linter.unusedVariables false
set_option maxHeartbeats 4000000

/-- What a search hands back, in one form for both ends. -/
def Tail (d : Int × Nat × Int) (n : Nat) (seed : ByteArray) (vals : List ByteArray) (s : ByteArray) (A : Option Addr) (n' c' : Nat) (sd : ByteArray) (zz : Int) (w' : World) : Prop :=
  (d.1 = 0 ∧ s = B d.2.1 ∧ n' = n ∧ c' = n ∧ sd = seed ∧ zz = d.2.2 ∧ (∃ g, A = some ⟨g, 0, none⟩) ∧ SLs w' w'.heap.size A vals) ∨ (d.1 ≠ 0 ∧ s = ⟨#[]⟩ ∧ A = none ∧ n' = 0 ∧ c' = 0 ∧ sd = ⟨#[]⟩ ∧ zz = 0)
theorem searchPost.tail {d : Int × Nat × Int} {n : Nat} {seed : ByteArray} {vals : List ByteArray} {e : Ending} {w' : World} (h : searchPost d n seed vals e w') :
    ∃ s A n' c' sd zz, e = .returned (.tuple #[.string s, .agg #[.slice A n' c', .string sd, .int .i64 zz], .int .i64 d.1]) ∧ Tail d n seed vals s A n' c' sd zz w' := by
  rcases h with ⟨h0, g, rfl, hs⟩ | ⟨h0, rfl⟩
  · exact ⟨_, _, _, _, _, _, by rw [h0], .inl ⟨h0, rfl, rfl, rfl, rfl, rfl, ⟨g, rfl⟩, hs⟩⟩
  · exact ⟨_, _, _, _, _, _, rfl, .inr ⟨h0, rfl, rfl, rfl, rfl, rfl, rfl⟩⟩
theorem Tail.post {d : Int × Nat × Int} {n n' c' : Nat} {seed s sd : ByteArray} {A : Option Addr} {zz : Int} {vals : List ByteArray} {w' : World} (h : Tail d n seed vals s A n' c' sd zz w') :
    searchPost d n seed vals (.returned (.tuple #[.string s, .agg #[.slice A n' c', .string sd, .int .i64 zz], .int .i64 d.1])) w' := by
  rcases h with ⟨h0, rfl, rfl, rfl, rfl, rfl, ⟨g, rfl⟩, hs⟩ | ⟨h0, rfl, rfl, rfl, rfl, rfl, rfl⟩
  · exact .inl ⟨h0, g, by rw [h0], hs⟩
  · exact .inr ⟨h0, rfl⟩
theorem Tail.put {d : Int × Nat × Int} {n n' c' b : Nat} {seed s sd : ByteArray} {A : Option Addr} {zz : Int} {vals : List ByteArray} {w' : World} {x y t : Value} {u1 : Option Addr} {u2 u3 : Nat} (h : Tail d n seed vals s A n' c' sd zz w')
    (hb : w'.cell? ⟨b, 0, none⟩ = some (.slice u1 u2 u3)) : Tail d n seed vals s A n' c' sd zz (((w'.setCell ⟨b, 0, none⟩ x).setCell ⟨b, 1, none⟩ y).setCell ⟨b, 2, none⟩ t) := by
  rcases h with ⟨h0, rfl, rfl, rfl, rfl, rfl, ⟨g, rfl⟩, hs⟩ | h
  · have hs4 := SLs.put (x := x) (y := y) (t := t) hs hb (fun s h => by cases h)
    have e : (((w'.setCell ⟨b, 0, none⟩ x).setCell ⟨b, 1, none⟩ y).setCell ⟨b, 2, none⟩ t).heap.size = w'.heap.size := by simp
    rw [← e] at hs4
    exact .inl ⟨h0, rfl, rfl, rfl, rfl, rfl, ⟨g, rfl⟩, hs4⟩
  · exact .inr h
/-- The boxes of Prime: the number of bits, the tape, the result. -/
structure BoxP (w wx : World) (bits : Int) (A : Option Addr) (n c : Nat) (seed : ByteArray) (z : Int) : Prop where
  p0 : wx.cell? ⟨w.heap.size, 0, none⟩ = some (.int .i64 bits)
  t0 : wx.cell? ⟨w.heap.size + 1, 0, none⟩ = some (.slice A n c)
  t1 : wx.cell? ⟨w.heap.size + 1, 1, none⟩ = some (.string seed)
  t2 : wx.cell? ⟨w.heap.size + 1, 2, none⟩ = some (.int .i64 z)
  r : wx.heap[w.heap.size + 1 + 1]? = some (.cells #[.slice none 0 0, .string ⟨#[]⟩, .int .i64 0] 30 (0, 0))
  bel : Below w.heap.size w wx
section
variable {w wx wy : World} {bits : Int} {A : Option Addr} {n c : Nat} {seed : ByteArray} {z : Int} {x y t : Value}
theorem BoxP.start (w : World) (bits : Int) (A : Option Addr) (n c : Nat) (seed : ByteArray) (z : Int) : BoxP w (((w.alloc (.cells #[.int .i64 bits] 3)).alloc (.cells #[.slice A n c, .string seed, .int .i64 z] 30)).alloc (.cells #[.slice none 0 0, .string ⟨#[]⟩, .int .i64 0] 30)) bits A n c seed z :=
  ⟨by simp [go_sem], by simp [go_sem], by simp [go_sem], by simp [go_sem], by
    have := heap_alloc_new ((w.alloc (.cells #[.int .i64 bits] 3)).alloc (.cells #[.slice A n c, .string seed, .int .i64 z] 30)) (.cells #[.slice none 0 0, .string ⟨#[]⟩, .int .i64 0] 30)
    rwa [World.size_alloc, World.size_alloc] at this, (below_res w _ _).alloc (by simp; omega) _⟩
theorem BoxP.next (h : BoxP w wx bits A n c seed z) (hb : Below wx.heap.size wx wy) : BoxP w wy bits A n c seed z := by
  have lr : w.heap.size + 1 + 1 < wx.heap.size := (Array.getElem?_eq_some_iff.1 h.r).1
  exact ⟨(hb.cell (p := ⟨w.heap.size, 0, none⟩) (by show w.heap.size < _; omega)).trans h.p0, (hb.cell (p := ⟨w.heap.size + 1, 0, none⟩) (by show w.heap.size + 1 < _; omega)).trans h.t0, (hb.cell (p := ⟨w.heap.size + 1, 1, none⟩) (by show w.heap.size + 1 < _; omega)).trans h.t1, (hb.cell (p := ⟨w.heap.size + 1, 2, none⟩) (by show w.heap.size + 1 < _; omega)).trans h.t2,
    (hb.block _ lr).trans h.r, h.bel.trans (hb.mono (by omega))⟩
theorem BoxP.r0 (h : BoxP w wx bits A n c seed z) : wx.cell? ⟨w.heap.size + 1 + 1, 0, none⟩ = some (.slice none 0 0) ∧ wx.cell? ⟨w.heap.size + 1 + 1, 1, none⟩ = some (.string ⟨#[]⟩) ∧ wx.cell? ⟨w.heap.size + 1 + 1, 2, none⟩ = some (.int .i64 0) ∧
    wx.frozen? ⟨w.heap.size + 1 + 1, 0, none⟩ = false ∧ wx.frozen? ⟨w.heap.size + 1 + 1, 1, none⟩ = false ∧ wx.frozen? ⟨w.heap.size + 1 + 1, 2, none⟩ = false := by
  refine ⟨?_, ?_, ?_, ?_, ?_, ?_⟩ <;> simp [World.cell?, World.frozen?, h.r]
theorem BoxP.bel3 (h : BoxP w wx bits A n c seed z) : Below w.heap.size w (((wx.setCell ⟨w.heap.size + 1 + 1, 0, none⟩ x).setCell ⟨w.heap.size + 1 + 1, 1, none⟩ y).setCell ⟨w.heap.size + 1 + 1, 2, none⟩ t) := by
  have le : w.heap.size ≤ w.heap.size + 1 + 1 := Nat.le_add_right _ 2
  exact ((h.bel.setCell (p := ⟨w.heap.size + 1 + 1, 0, none⟩) le x).setCell (p := ⟨w.heap.size + 1 + 1, 1, none⟩) le y).setCell (p := ⟨w.heap.size + 1 + 1, 2, none⟩) le t
end
end Go.Proofs.YtapplggboepfaaaGreatDoor

namespace Go.Proofs.YtapplggboepfaaaGreatDoor
open Go.RowKit
set_option maxRecDepth 100000
set_option linter.unusedVariables false
set_option maxHeartbeats 4000000

end Go.Proofs.YtapplggboepfaaaGreatDoor
