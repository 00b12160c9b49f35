/- The walks of package coins: a draw. The walks of package coins: draws that fail. The walks of package coins: a draw from a seed. The walks of package coins: draw in general, Below. -/
import Derived.Test.YtkdbemdobfddoaaGreatDoorY3
import Derived.Deep.RegionLaw
import Derived.Deep.RegionHeld3
import Derived.Deep.DeepCutAuto
import Derived.Deep.CutBlock
namespace Go.Proofs.YtkdbemdobfddoaaGreatDoor
open Go.RowKit
set_option maxRecDepth 100000
set_option linter.unusedVariables false
set_option maxHeartbeats 4000000

/-- The first of 256 attempts that gives a coin below m. -/
def tryF (seed : ByteArray) (z : Int) (m : Nat) : Option Nat := (List.range 256).findSome? fun (a : Nat) => if attN seed z a (bitsN m) < m then some (attN seed z a (bitsN m)) else none
/-- A draw below m from a well-formed tape: the error and the coin. -/
def drawS (vals : List ByteArray) (seed : ByteArray) (z : Int) (m : Nat) : Int × Nat :=
  if z < vals.length then (if m ≤ num (vals.getD z.toNat ByteArray.empty) then (2, 0) else (0, num (vals.getD z.toNat ByteArray.empty)))
  else if seed.toList.isEmpty = true ∨ z = 2147483647 then (14, 0)
  else match tryF seed z m with
    | some x => (0, x)
    | none => (14, 0)
theorem madeCells_strs (n : Nat) : madeCells #[Value.string ByteArray.empty] n = (List.replicate n (Value.string ByteArray.empty)).toArray := by
  apply Array.ext
  · simp [madeCells]
  · intro i h1 h2
    simp [madeCells, Nat.mod_one]
theorem make_strs (n : Nat) (h : n ≤ 1000000) (w : World) : (Instr.makeSlice 31 (.int .i64 (n : Int)) (.int .i64 (n : Int))).run Tryz.prog w =
    .ok (.slice (some ⟨w.heap.size, 0, none⟩) n n) (w.alloc (.cells (List.replicate n (Value.string ByteArray.empty)).toArray 22)) := by
  rw [← madeCells_strs]
  exact run_make_row' 31 22 (.string ByteArray.empty) 16 Tryz.underlying31 nat_info rfl .i64 .i64 n (by omega) (by omega) w
theorem world_on {α : Exit → Act → World → Prop} {e : Exit} {a : Act} {WX : World} (R : World → Prop) (hR : R WX) (h : ∀ wx, R wx → α e a wx) : α e a WX := h WX hR
/-- What lies in memory while a draw is made: the tape, the result, the next tape with its values. -/
structure AtD (w wx : World) (gb gs : Nat) (A : Option Addr) (n c : Nat) (seed : ByteArray) (z : Int) (ls : List Value) : Prop where
  t0 : wx.cell? ⟨w.heap.size, 0, none⟩ = some (.slice A n c)
  t1 : wx.cell? ⟨w.heap.size, 1, none⟩ = some (.string seed)
  t2 : wx.cell? ⟨w.heap.size, 2, none⟩ = some (.int .i64 z)
  r : wx.heap[w.heap.size + 1]? = some (.cells #[.slice none 0 0, .string ⟨#[]⟩, .int .i64 0] 48 (0, 0))
  b : wx.heap[gb]? = some (.cells #[.slice (some ⟨gs, 0, none⟩) n n, .string seed, .int .i64 (z + 1)] 48 (0, 0))
  s : wx.heap[gs]? = some (.cells ls.toArray 22 (0, 0))
  hb : w.heap.size + 2 ≤ gb
  hs : w.heap.size + 2 ≤ gs
  ne : gb ≠ gs
  bel : Below w.heap.size w wx
theorem AtD.b0 {w wx : World} {gb gs n c : Nat} {A : Option Addr} {seed : ByteArray} {z : Int} {ls : List Value} (h : AtD w wx gb gs A n c seed z ls) :
    wx.cell? ⟨gb, 0, none⟩ = some (.slice (some ⟨gs, 0, none⟩) n n) ∧ wx.cell? ⟨gb, 1, none⟩ = some (.string seed) ∧ wx.cell? ⟨gb, 2, none⟩ = some (.int .i64 (z + 1)) := by
  simp [World.cell?, h.b]
theorem AtD.r0 {w wx : World} {gb gs n c : Nat} {A : Option Addr} {seed : ByteArray} {z : Int} {ls : List Value} (h : AtD w wx gb gs A n c seed z ls) :
    wx.cell? ⟨w.heap.size + 1, 0, none⟩ = some (.slice none 0 0) ∧ wx.cell? ⟨w.heap.size + 1, 1, none⟩ = some (.string ⟨#[]⟩) ∧ wx.cell? ⟨w.heap.size + 1, 2, none⟩ = some (.int .i64 0) ∧ (∀ k, wx.frozen? ⟨w.heap.size + 1, k, none⟩ = false) := by
  refine ⟨?_, ?_, ?_, fun k => ?_⟩ <;> simp [World.cell?, World.frozen?, h.r]
theorem AtD.row {w wx : World} {gb gs n c : Nat} {A : Option Addr} {seed : ByteArray} {z : Int} {vals : List ByteArray} (h : AtD w wx gb gs A n c seed z (vals.map Value.string)) : SRow wx gs vals := by
  intro j hj
  simp only [World.cell?, h.s]
  simp [List.getD, hj]
theorem AtD.lt {w wx : World} {gb gs n c : Nat} {A : Option Addr} {seed : ByteArray} {z : Int} {ls : List Value} (h : AtD w wx gb gs A n c seed z ls) : gs < wx.heap.size := (Array.getElem?_eq_some_iff.1 h.s).1
theorem AtD.copied {w wx : World} {gb gs n c : Nat} {A : Option Addr} {seed : ByteArray} {z : Int} {ls ms : List Value} (h : AtD w wx gb gs A n c seed z ls) : AtD w (wx.setRow gs ms.toArray) gb gs A n c seed z ms := by
  have hX : w.heap.size ≠ gs := by have := h.hs; omega
  have hX1 : w.heap.size + 1 ≠ gs := by have := h.hs; omega
  refine ⟨?_, ?_, ?_, (setRow_other wx gs _ _ hX1).trans h.r, (setRow_other wx gs _ _ h.ne).trans h.b, setRow_heap wx gs _ _ _ _ h.s, h.hb, h.hs, h.ne, below_setRow h.bel (by have := h.hs; omega) _⟩
  · exact (World.cell?_of_block (setRow_other wx gs _ _ hX)).trans h.t0
  · exact (World.cell?_of_block (setRow_other wx gs _ _ hX)).trans h.t1
  · exact (World.cell?_of_block (setRow_other wx gs _ _ hX)).trans h.t2
theorem new4 (w : World) (a b c d : Obj) : ((((w.alloc a).alloc b).alloc c).alloc d).drew.heap[w.heap.size + 1]? = some b ∧ ((((w.alloc a).alloc b).alloc c).alloc d).drew.heap[w.heap.size + 1 + 1]? = some c ∧ ((((w.alloc a).alloc b).alloc c).alloc d).drew.heap[w.heap.size + 1 + 1 + 1]? = some d := by
  have h2 : ((w.alloc a).alloc b).heap[w.heap.size + 1]? = some b := by have := heap_alloc_new (w.alloc a) b; rwa [World.size_alloc] at this
  have h3 : (((w.alloc a).alloc b).alloc c).heap[w.heap.size + 1 + 1]? = some c := by have := heap_alloc_new ((w.alloc a).alloc b) c; rwa [World.size_alloc, World.size_alloc] at this
  have h4 : ((((w.alloc a).alloc b).alloc c).alloc d).heap[w.heap.size + 1 + 1 + 1]? = some d := by have := heap_alloc_new (((w.alloc a).alloc b).alloc c) d; rwa [World.size_alloc, World.size_alloc, World.size_alloc] at this
  exact ⟨(Below.heap_alloc _ _ _ (by simp)).trans ((Below.heap_alloc _ _ _ (by simp)).trans h2), (Below.heap_alloc _ _ _ (by simp)).trans h3, h4⟩
theorem atD_A (w : World) (A : Option Addr) (n c : Nat) (seed : ByteArray) (z : Int) (hz : IntKind.i64.wrap (z + 1) = z + 1) :
    AtD w ((((w.alloc (.cells #[.slice A n c, .string seed, .int .i64 z] 48)).alloc (.cells #[.slice none 0 0, .string ⟨#[]⟩, .int .i64 0] 48)).alloc (.cells #[.slice (some ⟨w.heap.size + 1 + 1 + 1, 0, none⟩) n n, .string seed, .int .i64 (z + 1)] 48)).alloc (.cells (Array.replicate n (.string ByteArray.empty)) 22)).drew
      (w.heap.size + 1 + 1) (w.heap.size + 1 + 1 + 1) A n c seed z (List.replicate n (.string ByteArray.empty)) := by
  have hb : Below w.heap.size w ((((w.alloc (.cells #[.slice A n c, .string seed, .int .i64 z] 48)).alloc (.cells #[.slice none 0 0, .string ⟨#[]⟩, .int .i64 0] 48)).alloc (.cells #[.slice (some ⟨w.heap.size + 1 + 1 + 1, 0, none⟩) n n, .string seed, .int .i64 (z + 1)] 48)).alloc (.cells (Array.replicate n (.string ByteArray.empty)) 22)).drew :=
    (((((Below.refl _ _).alloc (Nat.le_refl _) _).alloc (by simp) _).alloc (by simp; omega) _).alloc (by simp; omega) _).drew
  exact ⟨by simp [go_sem], by simp [go_sem], by simp [go_sem], (new4 w _ _ _ _).1, (new4 w _ _ _ _).2.1, (new4 w _ _ _ _).2.2, by omega, by omega, by omega, hb⟩
theorem atD_B (w : World) (A : Option Addr) (n c : Nat) (seed : ByteArray) (z : Int) (hz : IntKind.i64.wrap (z + 1) = z + 1) :
    AtD w ((((w.alloc (.cells #[.slice A n c, .string seed, .int .i64 z] 48)).alloc (.cells #[.slice none 0 0, .string ⟨#[]⟩, .int .i64 0] 48)).alloc (.cells (Array.replicate n (.string ByteArray.empty)) 22)).alloc (.cells #[.slice (some ⟨w.heap.size + 1 + 1, 0, none⟩) n n, .string seed, .int .i64 (z + 1)] 48)).drew
      (w.heap.size + 1 + 1 + 1) (w.heap.size + 1 + 1) A n c seed z (List.replicate n (.string ByteArray.empty)) := by
  have hb : Below w.heap.size w ((((w.alloc (.cells #[.slice A n c, .string seed, .int .i64 z] 48)).alloc (.cells #[.slice none 0 0, .string ⟨#[]⟩, .int .i64 0] 48)).alloc (.cells (Array.replicate n (.string ByteArray.empty)) 22)).alloc (.cells #[.slice (some ⟨w.heap.size + 1 + 1, 0, none⟩) n n, .string seed, .int .i64 (z + 1)] 48)).drew :=
    (((((Below.refl _ _).alloc (Nat.le_refl _) _).alloc (by simp) _).alloc (by simp; omega) _).alloc (by simp; omega) _).drew
  exact ⟨by simp [go_sem], by simp [go_sem], by simp [go_sem], (new4 w _ _ _ _).1, (new4 w _ _ _ _).2.2, (new4 w _ _ _ _).2.1, by omega, by omega, by omega, hb⟩
theorem copy_row (n : Nat) (e : Value) (L : List Value) (h : L.length = n) : ((List.replicate n e).toArray.toList.take 0 ++ (L ++ (List.replicate n e).toArray.toList.drop (0 + L.length))) = L := by
  rw [List.take_zero, List.nil_append, Nat.zero_add, h]
  simp
theorem hop3 {w : World} {r : Nat} {x y z : Value} {a : Addr} {u : Option Value} (h : r ≠ a.block) (hc : w.cell? a = u) : (((w.setCell ⟨r, 0, none⟩ x).setCell ⟨r, 1, none⟩ y).setCell ⟨r, 2, none⟩ z).drew.cell? a = u := by
  have h' : ∀ k, (⟨r, k, none⟩ : Addr) ≠ a := fun k e => h (by rw [← e])
  exact (World.cell?_setCell_other _ _ _ _ (h' 2)).trans ((World.cell?_setCell_other _ _ _ _ (h' 1)).trans ((World.cell?_setCell_other _ _ _ _ (h' 0)).trans hc))
theorem some3 {w : World} {r : Nat} {x y z : Value} {a : Addr} (h : ∃ u, w.cell? a = some u) : ∃ u, (((w.setCell ⟨r, 0, none⟩ x).setCell ⟨r, 1, none⟩ y).setCell ⟨r, 2, none⟩ z).drew.cell? a = some u := by
  obtain ⟨u, hu⟩ := h
  obtain ⟨u1, h1⟩ : ∃ u1, (w.setCell ⟨r, 0, none⟩ x).cell? a = some u1 := cell?_setCell_some hu
  obtain ⟨u2, h2⟩ : ∃ u2, ((w.setCell ⟨r, 0, none⟩ x).setCell ⟨r, 1, none⟩ y).cell? a = some u2 := cell?_setCell_some h1
  obtain ⟨u3, h3⟩ : ∃ u3, (((w.setCell ⟨r, 0, none⟩ x).setCell ⟨r, 1, none⟩ y).setCell ⟨r, 2, none⟩ z).cell? a = some u3 := cell?_setCell_some h2
  exact ⟨u3, h3⟩
theorem free3 {w : World} {r : Nat} {x y z : Value} {a : Addr} {b : Bool} (h : w.frozen? a = b) : (((w.setCell ⟨r, 0, none⟩ x).setCell ⟨r, 1, none⟩ y).setCell ⟨r, 2, none⟩ z).drew.frozen? a = b :=
  (World.frozen?_setCell _ _ _ _).trans ((World.frozen?_setCell _ _ _ _).trans ((World.frozen?_setCell _ _ _ _).trans h))
theorem str_ones (l : List ByteArray) : ∀ v ∈ l.map Value.string, v.oneCell' = true := by
  intro v hv
  obtain ⟨n, _, rfl⟩ := List.mem_map.mp hv
  rfl
theorem src_cells {w wx : World} {ad : Addr} {vals : List ByteArray} (hb : Below w.heap.size w wx) (had : ad.block < w.heap.size) (h : ∀ j, j < vals.length → w.cell? (ad.add j) = some (.string (vals.getD j ByteArray.empty))) :
    ∀ j v, (vals.map Value.string)[j]? = some v → wx.cell? (ad.add j) = some v := by
  intro j v hv
  rw [List.getElem?_map, Option.map_eq_some_iff] at hv
  obtain ⟨x, hx, rfl⟩ := hv
  have hj := (List.getElem?_eq_some_iff.1 hx).1
  rw [hb.cell (by rw [block_of_add]; exact had), h j hj, sgetD_lt hj, (List.getElem?_eq_some_iff.1 hx).2]
theorem AtD.stored {w w6 : World} {gb gs n c : Nat} {ad p : Addr} {seed : ByteArray} {z : Int} {ls : List Value} {u x y t : Value} (h : AtD w w6 gb gs (some ad) n c seed z ls) (hp : p.block < w.heap.size) (hsrc : w6.cell? p = some u) :
    (((w6.setCell ⟨w.heap.size + 1, 0, none⟩ x).setCell ⟨w.heap.size + 1, 1, none⟩ y).setCell ⟨w.heap.size + 1, 2, none⟩ t).drew.cell? ⟨w.heap.size, 0, none⟩ = some (.slice (some ad) n c) ∧
    (((w6.setCell ⟨w.heap.size + 1, 0, none⟩ x).setCell ⟨w.heap.size + 1, 1, none⟩ y).setCell ⟨w.heap.size + 1, 2, none⟩ t).drew.cell? ⟨w.heap.size, 2, none⟩ = some (.int .i64 z) ∧
    (((w6.setCell ⟨w.heap.size + 1, 0, none⟩ x).setCell ⟨w.heap.size + 1, 1, none⟩ y).setCell ⟨w.heap.size + 1, 2, none⟩ t).drew.cell? p = some u ∧
    (((w6.setCell ⟨w.heap.size + 1, 0, none⟩ x).setCell ⟨w.heap.size + 1, 1, none⟩ y).setCell ⟨w.heap.size + 1, 2, none⟩ t).drew.cell? ⟨gb, 0, none⟩ = some (.slice (some ⟨gs, 0, none⟩) n n) ∧
    (((w6.setCell ⟨w.heap.size + 1, 0, none⟩ x).setCell ⟨w.heap.size + 1, 1, none⟩ y).setCell ⟨w.heap.size + 1, 2, none⟩ t).drew.cell? ⟨gb, 1, none⟩ = some (.string seed) ∧
    (((w6.setCell ⟨w.heap.size + 1, 0, none⟩ x).setCell ⟨w.heap.size + 1, 1, none⟩ y).setCell ⟨w.heap.size + 1, 2, none⟩ t).drew.cell? ⟨gb, 2, none⟩ = some (.int .i64 (z + 1)) ∧
    (∃ u, (((w6.setCell ⟨w.heap.size + 1, 0, none⟩ x).setCell ⟨w.heap.size + 1, 1, none⟩ y).setCell ⟨w.heap.size + 1, 2, none⟩ t).drew.cell? ⟨w.heap.size + 1, 0, none⟩ = some u) ∧
    (∃ u, (((w6.setCell ⟨w.heap.size + 1, 0, none⟩ x).setCell ⟨w.heap.size + 1, 1, none⟩ y).setCell ⟨w.heap.size + 1, 2, none⟩ t).drew.cell? ⟨w.heap.size + 1, 1, none⟩ = some u) ∧
    (∃ u, (((w6.setCell ⟨w.heap.size + 1, 0, none⟩ x).setCell ⟨w.heap.size + 1, 1, none⟩ y).setCell ⟨w.heap.size + 1, 2, none⟩ t).drew.cell? ⟨w.heap.size + 1, 2, none⟩ = some u) ∧
    (((w6.setCell ⟨w.heap.size + 1, 0, none⟩ x).setCell ⟨w.heap.size + 1, 1, none⟩ y).setCell ⟨w.heap.size + 1, 2, none⟩ t).drew.frozen? ⟨w.heap.size + 1, 0, none⟩ = false ∧
    (((w6.setCell ⟨w.heap.size + 1, 0, none⟩ x).setCell ⟨w.heap.size + 1, 1, none⟩ y).setCell ⟨w.heap.size + 1, 2, none⟩ t).drew.frozen? ⟨w.heap.size + 1, 1, none⟩ = false ∧
    (((w6.setCell ⟨w.heap.size + 1, 0, none⟩ x).setCell ⟨w.heap.size + 1, 1, none⟩ y).setCell ⟨w.heap.size + 1, 2, none⟩ t).drew.frozen? ⟨w.heap.size + 1, 2, none⟩ = false := by
  obtain ⟨v0, v1, v2⟩ := h.b0
  obtain ⟨r0, r1, r2, rf⟩ := h.r0
  have hb := h.hb
  have nX : w.heap.size + 1 ≠ w.heap.size := by omega
  have nb : w.heap.size + 1 ≠ gb := by omega
  exact ⟨hop3 nX h.t0, hop3 nX h.t2, hop3 (by omega) hsrc, hop3 nb v0, hop3 nb v1, hop3 nb v2, some3 ⟨_, r0⟩, some3 ⟨_, r1⟩, some3 ⟨_, r2⟩, free3 (rf 0), free3 (rf 1), free3 (rf 2)⟩
theorem AtD.res {w w6 : World} {gb gs n c : Nat} {A : Option Addr} {seed : ByteArray} {z : Int} {vals : List ByteArray} {x y t : Value} (h : AtD w w6 gb gs A n c seed z (vals.map Value.string)) :
    SLs (((w6.setCell ⟨w.heap.size + 1, 0, none⟩ x).setCell ⟨w.heap.size + 1, 1, none⟩ y).setCell ⟨w.heap.size + 1, 2, none⟩ t).drew (((w6.setCell ⟨w.heap.size + 1, 0, none⟩ x).setCell ⟨w.heap.size + 1, 1, none⟩ y).setCell ⟨w.heap.size + 1, 2, none⟩ t).drew.heap.size (some ⟨gs, 0, none⟩) vals ∧
    Below w.heap.size w (((w6.setCell ⟨w.heap.size + 1, 0, none⟩ x).setCell ⟨w.heap.size + 1, 1, none⟩ y).setCell ⟨w.heap.size + 1, 2, none⟩ t).drew := by
  have hs := h.hs
  have le : w.heap.size ≤ w.heap.size + 1 := Nat.le_succ _
  refine ⟨SLs.of_row (fun j hj => hop3 (by show w.heap.size + 1 ≠ gs; omega) (h.row j hj)) ?_, (((h.bel.setCell (p := ⟨w.heap.size + 1, 0, none⟩) le x).setCell (p := ⟨w.heap.size + 1, 1, none⟩) le y).setCell (p := ⟨w.heap.size + 1, 2, none⟩) le t).drew⟩
  have := h.lt
  simpa [World.drew] using this
theorem draw_value (vals : List ByteArray) (A : Option Addr) (n c : Nat) (seed : ByteArray) (k v m : Nat) (w : World) (hn : vals.length = n) (hm : n ≤ 1000) (h : SLs w w.heap.size A vals) (hk : k < n)
    (hv : vals.getD k ByteArray.empty = B v) (hv1 : v < lim) (hvm : v < m) (hm1 : m < 18446744073709551616) (hs : seed.size ≤ 100000) :
    Calls Tryz.prog 101 #[.agg #[.slice A n c, .string seed, .int .i64 k], .string (B m)] w fun e w' => (∃ g, e = .returned (.tuple #[.string (B v), .agg #[.slice (some ⟨g, 0, none⟩) n n, .string seed, .int .i64 ((k : Int) + 1)], .int .i64 0]) ∧ SLs w' w'.heap.size (some ⟨g, 0, none⟩) vals) ∧ Below w.heap.size w w' := by
  obtain ⟨ad, rfl, hadb, hall⟩ := h (by intro e; rw [e] at hn; simp at hn; omega)
  have hc0 := hall k (by omega)
  rw [hv] at hc0
  have hc1 : ((w.alloc (.cells #[.slice (some ad) n c, .string seed, .int .i64 k] 48)).alloc (.cells #[.slice none 0 0, .string ⟨#[]⟩, .int .i64 0] 48)).cell? (ad.add k) = some (.string (B v)) := by
    rw [World.cell?_alloc_lt _ _ _ (by rw [block_of_add]; simp; omega), World.cell?_alloc_lt _ _ _ (by rw [block_of_add]; exact hadb)]
    exact hc0
  have hzw : IntKind.i64.wrap ((k : Int) + 1) = (k : Int) + 1 := by rw [IntKind.wrap_i64]; omega
  have i0 : (0 : Int) ≤ (k : Int) := by omega
  have i1 : (k : Int) < (n : Int) := by omega
  have i2 : ¬ ((k : Int) = 2147483647) := by omega
  have i3 : ((k : Int) == 2147483647) = false := by rw [beq_eq_false_iff_ne]; exact i2
  have hmk := make_strs n (by omega)
  have KC := Lib.hid (fun w => natural_Cmp (B v) (B m) w)
  rw [natCmp_BB hv1 (Nat.lt_trans hm1 (by decide)), show cmpN v m = -1 from by unfold cmpN; rw [if_pos hvm]] at KC
  have HV1 := Lib.hid hv1
  have HALL := Lib.hid hall
  have HN := Lib.hid hn
  have HV := Lib.hid hv
  clear hall hn hc0 hv
  go_enter Tryz.func101, Tryz.ntmps101
  go_wp2_with (first | (go_at_call 54; (with_reducible refine (KC.out _).mono ?_); rintro e w1 ⟨rfl, rfl⟩))
  have d0 : ((w.alloc (.cells #[.slice (some ad) n c, .string seed, .int .i64 k] 48)).alloc (.cells #[.slice none 0 0, .string ⟨#[]⟩, .int .i64 0] 48)).cell? ⟨w.heap.size, 0, none⟩ = some (.slice (some ad) n c) := by simp [go_sem]
  have d1 : ((w.alloc (.cells #[.slice (some ad) n c, .string seed, .int .i64 k] 48)).alloc (.cells #[.slice none 0 0, .string ⟨#[]⟩, .int .i64 0] 48)).cell? ⟨w.heap.size, 1, none⟩ = some (.string seed) := by simp [go_sem]
  have d2 : ((w.alloc (.cells #[.slice (some ad) n c, .string seed, .int .i64 k] 48)).alloc (.cells #[.slice none 0 0, .string ⟨#[]⟩, .int .i64 0] 48)).cell? ⟨w.heap.size, 2, none⟩ = some (.int .i64 k) := by simp [go_sem]
  go_region_held3 (fun w' => w'.cell? ⟨w.heap.size, 0, none⟩ = some (.slice (some ad) n c) ∧ w'.cell? ⟨w.heap.size, 1, none⟩ = some (.string seed) ∧ w'.cell? ⟨w.heap.size, 2, none⟩ = some (.int .i64 k)) (first | go_keep) (first | fail)
  all_goals
    first
      | (refine world_on (fun wx => AtD w wx (w.heap.size + 1 + 1) (w.heap.size + 1 + 1 + 1) (some ad) n c seed k (List.replicate n (.string ByteArray.empty))) (atD_A w (some ad) n c seed k hzw) ?_)
      | (refine world_on (fun wx => AtD w wx (w.heap.size + 1 + 1 + 1) (w.heap.size + 1 + 1) (some ad) n c seed k (List.replicate n (.string ByteArray.empty))) (atD_B w (some ad) n c seed k hzw) ?_)
    intro wx hx
    have x0 := hx.t0
    have x2 := hx.t2
    obtain ⟨y0, y1, y2⟩ := hx.b0
    have HX := Lib.hid hx
    clear hx
    go_wp2_with (first
    | (refine wpList_copy_own rfl (.tmp 56) (.tmp 58) _ _ rfl 22 Tryz.underlying31 rfl _ 0 n n ad n c rfl rfl _ 22 HX.out.s (vals.map Value.string) (by simp [HN.out]) (src_cells HX.out.bel hadb HALL.out) (by simp [HN.out]) (str_ones vals) ?_
       rw [copy_row n _ _ (by rw [List.length_map]; exact HN.out)]
       have hx6 := HX.out.copied (ms := vals.map Value.string)
       generalize hw6 : wx.setRow _ (vals.map Value.string).toArray = w6 at hx6 ⊢
       have z0 := hx6.t0
       have z2 := hx6.t2
       obtain ⟨v0, v1, v2⟩ := hx6.b0
       obtain ⟨r0, r1, r2, rf⟩ := hx6.r0
       have rf0 := rf 0
       have rf1 := rf 1
       have rf2 := rf 2
       have hsrc := src_cells hx6.bel hadb HALL.out k (.string (B v)) (by rw [List.getElem?_map, List.getElem?_eq_getElem (by rw [HN.out]; exact hk), ← sgetD_lt (by rw [HN.out]; exact hk), HV.out]; rfl)
       have H6 := Lib.hid hx6
       clear hx6 hw6 rf))
    have hpb : (ad.add k).block < w.heap.size := by rw [block_of_add]; exact hadb
    first
      | (go_region_held3 (fun w' => w'.cell? ⟨w.heap.size, 0, none⟩ = some (.slice (some ad) n c) ∧ w'.cell? ⟨w.heap.size, 2, none⟩ = some (.int .i64 k) ∧ w'.cell? (ad.add k) = some (.string (B v)) ∧ w'.cell? ⟨w.heap.size + 1 + 1, 0, none⟩ = some (.slice (some ⟨w.heap.size + 1 + 1 + 1, 0, none⟩) n n) ∧ w'.cell? ⟨w.heap.size + 1 + 1, 1, none⟩ = some (.string seed) ∧ w'.cell? ⟨w.heap.size + 1 + 1, 2, none⟩ = some (.int .i64 ((k : Int) + 1)) ∧ (∃ u, w'.cell? ⟨w.heap.size + 1, 0, none⟩ = some u) ∧ (∃ u, w'.cell? ⟨w.heap.size + 1, 1, none⟩ = some u) ∧ (∃ u, w'.cell? ⟨w.heap.size + 1, 2, none⟩ = some u) ∧ w'.frozen? ⟨w.heap.size + 1, 0, none⟩ = false ∧ w'.frozen? ⟨w.heap.size + 1, 1, none⟩ = false ∧ w'.frozen? ⟨w.heap.size + 1, 2, none⟩ = false) (first | (with_reducible exact H6.out.stored (p := ad.add k) hpb hsrc) | go_keep) (first | fail))
      | (go_region_held3 (fun w' => w'.cell? ⟨w.heap.size, 0, none⟩ = some (.slice (some ad) n c) ∧ w'.cell? ⟨w.heap.size, 2, none⟩ = some (.int .i64 k) ∧ w'.cell? (ad.add k) = some (.string (B v)) ∧ w'.cell? ⟨w.heap.size + 1 + 1 + 1, 0, none⟩ = some (.slice (some ⟨w.heap.size + 1 + 1, 0, none⟩) n n) ∧ w'.cell? ⟨w.heap.size + 1 + 1 + 1, 1, none⟩ = some (.string seed) ∧ w'.cell? ⟨w.heap.size + 1 + 1 + 1, 2, none⟩ = some (.int .i64 ((k : Int) + 1)) ∧ (∃ u, w'.cell? ⟨w.heap.size + 1, 0, none⟩ = some u) ∧ (∃ u, w'.cell? ⟨w.heap.size + 1, 1, none⟩ = some u) ∧ (∃ u, w'.cell? ⟨w.heap.size + 1, 2, none⟩ = some u) ∧ w'.frozen? ⟨w.heap.size + 1, 0, none⟩ = false ∧ w'.frozen? ⟨w.heap.size + 1, 1, none⟩ = false ∧ w'.frozen? ⟨w.heap.size + 1, 2, none⟩ = false) (first | (with_reducible exact H6.out.stored (p := ad.add k) hpb hsrc) | go_keep) (first | fail))
    go_wp2_with fail
    first
      | exact bodyPost_ret (v := .tuple #[.string (B v), .agg #[.slice (some ⟨w.heap.size + 1 + 1 + 1, 0, none⟩) n n, .string seed, .int .i64 ((k : Int) + 1)], .int .i64 0]) (by simp [results, Tryz.results101, go_sem, r0, r1, r2]) rfl ⟨⟨_, rfl, H6.out.res.1⟩, H6.out.res.2⟩
      | exact bodyPost_ret (v := .tuple #[.string (B v), .agg #[.slice (some ⟨w.heap.size + 1 + 1, 0, none⟩) n n, .string seed, .int .i64 ((k : Int) + 1)], .int .i64 0]) (by simp [results, Tryz.results101, go_sem, r0, r1, r2]) rfl ⟨⟨_, rfl, H6.out.res.1⟩, H6.out.res.2⟩

end Go.Proofs.YtkdbemdobfddoaaGreatDoor

namespace Go.Proofs.YtkdbemdobfddoaaGreatDoor
open Go.RowKit
set_option maxRecDepth 100000
set_option linter.unusedVariables false
set_option maxHeartbeats 4000000

theorem below_res (w : World) (a b : Obj) : Below w.heap.size w ((w.alloc a).alloc b) := ((Below.refl _ _).alloc (Nat.le_refl _) _).alloc (by simp) _
theorem draw_high (vals : List ByteArray) (A : Option Addr) (n c : Nat) (seed : ByteArray) (k v m : Nat) (w : World) (hn : vals.length = n) (hm : n ≤ 1000) (h : SLs w w.heap.size A vals) (hk : k < n)
    (hv : vals.getD k ByteArray.empty = B v) (hv1 : v < lim) (hvm : m ≤ v) (hm1 : m < 18446744073709551616) :
    Calls Tryz.prog 101 #[.agg #[.slice A n c, .string seed, .int .i64 k], .string (B m)] w fun e w' => e = .returned (.tuple #[.string ⟨#[]⟩, .agg #[.slice none 0 0, .string ⟨#[]⟩, .int .i64 0], .int .i64 2]) ∧ Below w.heap.size w w' := by
  obtain ⟨ad, rfl, hadb, hall⟩ := h (by intro e; rw [e] at hn; simp at hn; omega)
  have hc0 := hall k (by omega)
  rw [hv] at hc0
  have hc1 : ((w.alloc (.cells #[.slice (some ad) n c, .string seed, .int .i64 k] 48)).alloc (.cells #[.slice none 0 0, .string ⟨#[]⟩, .int .i64 0] 48)).cell? (ad.add k) = some (.string (B v)) := by
    rw [World.cell?_alloc_lt _ _ _ (by rw [block_of_add]; simp; omega), World.cell?_alloc_lt _ _ _ (by rw [block_of_add]; exact hadb)]
    exact hc0
  have i0 : (0 : Int) ≤ (k : Int) := by omega
  have i1 : (k : Int) < (n : Int) := by omega
  have KC := Lib.hid (fun w => natural_Cmp (B v) (B m) w)
  rw [natCmp_BB hv1 (Nat.lt_trans hm1 (by decide))] at KC
  obtain ⟨y, hy, hy0⟩ : ∃ y : Int, cmpN v m = y ∧ 0 ≤ y := ⟨_, rfl, by unfold cmpN; rw [if_neg (by omega)]; split <;> decide⟩
  rw [hy] at KC
  clear hy hall hn hc0 hv
  go_enter Tryz.func101, Tryz.ntmps101
  go_wp2_with (first | (go_at_call 54; (with_reducible refine (KC.out _).mono ?_); rintro e w1 ⟨rfl, rfl⟩))
  exact bodyPost_ret (v := .tuple #[.string ⟨#[]⟩, .agg #[.slice none 0 0, .string ⟨#[]⟩, .int .i64 0], .int .i64 2]) (by simp [results, Tryz.results101, go_sem]) rfl ⟨rfl, below_res w _ _⟩
theorem draw_none (vals : List ByteArray) (A : Option Addr) (n c : Nat) (seed : ByteArray) (z : Int) (m : Nat) (w : World) (hm : n ≤ 1000) (hz : (n : Int) ≤ z) (hs : seed.toList.isEmpty = true ∨ z = 2147483647) :
    Calls Tryz.prog 101 #[.agg #[.slice A n c, .string seed, .int .i64 z], .string (B m)] w fun e w' => e = .returned (.tuple #[.string ⟨#[]⟩, .agg #[.slice none 0 0, .string ⟨#[]⟩, .int .i64 0], .int .i64 14]) ∧ Below w.heap.size w w' := by
  have i1 : ¬ z < (n : Int) := by omega
  have i2 : (n : Int) ≤ z := hz
  cases he : seed.toList.isEmpty
  · have hz2 : z = 2147483647 := by rcases hs with h | h; · rw [he] at h; cases h
                                    · exact h
    subst hz2
    go_enter Tryz.func101, Tryz.ntmps101
    go_wp2
    exact bodyPost_ret (v := .tuple #[.string ⟨#[]⟩, .agg #[.slice none 0 0, .string ⟨#[]⟩, .int .i64 0], .int .i64 14]) (by simp [results, Tryz.results101, go_sem]) rfl ⟨rfl, below_res w _ _⟩
  · go_enter Tryz.func101, Tryz.ntmps101
    go_wp2
    exact bodyPost_ret (v := .tuple #[.string ⟨#[]⟩, .agg #[.slice none 0 0, .string ⟨#[]⟩, .int .i64 0], .int .i64 14]) (by simp [results, Tryz.results101, go_sem]) rfl ⟨rfl, below_res w _ _⟩

end Go.Proofs.YtkdbemdobfddoaaGreatDoor

namespace Go.Proofs.YtkdbemdobfddoaaGreatDoor
open Go.RowKit
set_option maxRecDepth 100000
set_option linter.unusedVariables false
set_option maxHeartbeats 4000000

theorem AtD.next {w wx wy : World} {gb gs n c : Nat} {A : Option Addr} {seed : ByteArray} {z : Int} {ls : List Value} (h : AtD w wx gb gs A n c seed z ls) (hb : Below wx.heap.size wx wy) : AtD w wy gb gs A n c seed z ls := by
  have lb : gb < wx.heap.size := (Array.getElem?_eq_some_iff.1 h.b).1
  have lr : w.heap.size + 1 < wx.heap.size := (Array.getElem?_eq_some_iff.1 h.r).1
  exact ⟨(hb.cell (p := ⟨w.heap.size, 0, none⟩) (by show w.heap.size < _; omega)).trans h.t0, (hb.cell (p := ⟨w.heap.size, 1, none⟩) (by show w.heap.size < _; omega)).trans h.t1, (hb.cell (p := ⟨w.heap.size, 2, none⟩) (by show w.heap.size < _; omega)).trans h.t2,
    (hb.block _ lr).trans h.r, (hb.block _ lb).trans h.b, (hb.block _ h.lt).trans h.s, h.hb, h.hs, h.ne, h.bel.trans (hb.mono (by have := h.bel.size; omega))⟩
theorem copy_src {w wx : World} {A : Option Addr} {vals : List ByteArray} (hb : Below w.heap.size w wx) (h : SLs w w.heap.size A vals) (h0 : 0 < vals.length) :
    ∃ ad, A = some ad ∧ ∀ j v, (vals.map Value.string)[j]? = some v → wx.cell? (ad.add j) = some v := by
  obtain ⟨ad, rfl, hadb, hall⟩ := h (by intro e; rw [e] at h0; cases h0)
  exact ⟨ad, rfl, src_cells hb hadb hall⟩
/-- 'copy(next.Values, t.Values)'. -/
theorem wpList_copy_strs {w wx : World} {gb gs n c : Nat} {A : Option Addr} {seed : ByteArray} {z : Int} {vals : List ByteArray} {ops : Array Oper} {rest : List Oper} {o : Oper} {a : Act} {Q : Exit → Act → World → Prop} (hgd : o.guard = none) (d s : Operand)
    (ho : o.op = .call { callee := .builtin .copy, args := #[d, s], argTypes := #[31, 31] })
    (hd : a.eval d = .slice (some ⟨gs, 0, none⟩) n n) (hs : a.eval s = .slice A n c) (HX : AtD w wx gb gs A n c seed z (List.replicate n (.string ByteArray.empty))) (hS : SLs w w.heap.size A vals) (hn : vals.length = n)
    (h : ∀ w6, AtD w w6 gb gs A n c seed z (vals.map Value.string) → wpList Tryz.prog ops Q rest (a.put o.dst (goInt n)) w6) : wpList Tryz.prog ops Q (o :: rest) a wx := by
  have hlen : (vals.map Value.string).length = n := by rw [List.length_map, hn]
  rcases Nat.eq_zero_or_pos n with h0 | h0
  · subst h0
    refine wpList_copy_nothing hgd d s _ _ ho 22 Tryz.underlying31 rfl (some ⟨gs, 0, none⟩) A 0 0 0 c hd hs rfl ?_
    have hv : vals = [] := List.length_eq_zero_iff.mp hn
    refine h wx ?_
    rw [hv]
    exact HX
  · obtain ⟨ad, rfl, hc⟩ := copy_src HX.bel hS (by omega)
    refine wpList_copy_own hgd d s _ _ ho 22 Tryz.underlying31 rfl gs 0 n n ad n c hd hs _ 22 HX.s (vals.map Value.string) (by rw [hlen]; exact (Nat.min_self n).symm) hc (by rw [hlen]; simp) (str_ones vals) ?_
    rw [copy_row n _ _ hlen, hlen]
    exact h _ HX.copied
theorem AtD.stored9 {w w6 : World} {gb gs n c : Nat} {A : Option Addr} {seed : ByteArray} {z : Int} {ls : List Value} {x y t : Value} (h : AtD w w6 gb gs A n c seed z ls) :
    (((w6.setCell ⟨w.heap.size + 1, 0, none⟩ x).setCell ⟨w.heap.size + 1, 1, none⟩ y).setCell ⟨w.heap.size + 1, 2, none⟩ t).drew.cell? ⟨gb, 0, none⟩ = some (.slice (some ⟨gs, 0, none⟩) n n) ∧ (((w6.setCell ⟨w.heap.size + 1, 0, none⟩ x).setCell ⟨w.heap.size + 1, 1, none⟩ y).setCell ⟨w.heap.size + 1, 2, none⟩ t).drew.cell? ⟨gb, 1, none⟩ = some (.string seed) ∧ (((w6.setCell ⟨w.heap.size + 1, 0, none⟩ x).setCell ⟨w.heap.size + 1, 1, none⟩ y).setCell ⟨w.heap.size + 1, 2, none⟩ t).drew.cell? ⟨gb, 2, none⟩ = some (.int .i64 (z + 1)) ∧
    (∃ u, (((w6.setCell ⟨w.heap.size + 1, 0, none⟩ x).setCell ⟨w.heap.size + 1, 1, none⟩ y).setCell ⟨w.heap.size + 1, 2, none⟩ t).drew.cell? ⟨w.heap.size + 1, 0, none⟩ = some u) ∧ (∃ u, (((w6.setCell ⟨w.heap.size + 1, 0, none⟩ x).setCell ⟨w.heap.size + 1, 1, none⟩ y).setCell ⟨w.heap.size + 1, 2, none⟩ t).drew.cell? ⟨w.heap.size + 1, 1, none⟩ = some u) ∧ (∃ u, (((w6.setCell ⟨w.heap.size + 1, 0, none⟩ x).setCell ⟨w.heap.size + 1, 1, none⟩ y).setCell ⟨w.heap.size + 1, 2, none⟩ t).drew.cell? ⟨w.heap.size + 1, 2, none⟩ = some u) ∧
    (((w6.setCell ⟨w.heap.size + 1, 0, none⟩ x).setCell ⟨w.heap.size + 1, 1, none⟩ y).setCell ⟨w.heap.size + 1, 2, none⟩ t).drew.frozen? ⟨w.heap.size + 1, 0, none⟩ = false ∧ (((w6.setCell ⟨w.heap.size + 1, 0, none⟩ x).setCell ⟨w.heap.size + 1, 1, none⟩ y).setCell ⟨w.heap.size + 1, 2, none⟩ t).drew.frozen? ⟨w.heap.size + 1, 1, none⟩ = false ∧ (((w6.setCell ⟨w.heap.size + 1, 0, none⟩ x).setCell ⟨w.heap.size + 1, 1, none⟩ y).setCell ⟨w.heap.size + 1, 2, none⟩ t).drew.frozen? ⟨w.heap.size + 1, 2, none⟩ = false := by
  obtain ⟨v0, v1, v2⟩ := h.b0
  obtain ⟨r0, r1, r2, rf⟩ := h.r0
  have hb := h.hb
  have nb : w.heap.size + 1 ≠ gb := by omega
  exact ⟨hop3 nb v0, hop3 nb v1, hop3 nb v2, some3 ⟨_, r0⟩, some3 ⟨_, r1⟩, some3 ⟨_, r2⟩, free3 (rf 0), free3 (rf 1), free3 (rf 2)⟩
theorem find_hit {seed : ByteArray} {z : Int} {m i : Nat} (h : i < 256) (hno : ∀ j : Nat, j < i → ¬ attN seed z j (bitsN m) < m) (hx : attN seed z i (bitsN m) < m) : tryF seed z m = some (attN seed z i (bitsN m)) := by
  unfold tryF
  rw [List.findSome?_eq_some_iff]
  refine ⟨List.range i, i, (List.range' (i + 1) (255 - i)), ?_, by rw [if_pos hx], fun j hj => by rw [if_neg (hno j (List.mem_range.1 hj))]⟩
  rw [List.range_eq_range', List.range_eq_range', ← List.range'_succ, show 255 - i + 1 = 256 - i by omega]
  have := List.range'_append (s := 0) (m := i) (n := 256 - i) (step := 1)
  rw [show 0 + 1 * i = i by omega, show i + (256 - i) = 256 by omega] at this
  exact this.symm
theorem find_miss {seed : ByteArray} {z : Int} {m : Nat} (hno : ∀ j : Nat, j < 256 → ¬ attN seed z j (bitsN m) < m) : tryF seed z m = none := by
  unfold tryF
  rw [List.findSome?_eq_none_iff]
  intro j hj
  rw [if_neg (hno j (List.mem_range.1 hj))]
/-- What a draw from the seed hands back. -/
def seedPost (r : Option Nat) (n : Nat) (seed : ByteArray) (z : Int) (vals : List ByteArray) (e : Ending) (w' : World) : Prop :=
  match r with
  | some x => ∃ g, e = .returned (.tuple #[.string (B x), .agg #[.slice (some ⟨g, 0, none⟩) n n, .string seed, .int .i64 (z + 1)], .int .i64 0]) ∧ SLs w' w'.heap.size (some ⟨g, 0, none⟩) vals
  | none => e = .returned (.tuple #[.string ⟨#[]⟩, .agg #[.slice none 0 0, .string ⟨#[]⟩, .int .i64 0], .int .i64 14])
theorem AtD.bel3 {w w6 : World} {gb gs n c : Nat} {A : Option Addr} {seed : ByteArray} {z : Int} {ls : List Value} {x y t : Value} (h : AtD w w6 gb gs A n c seed z ls) :
    Below w.heap.size w (((w6.setCell ⟨w.heap.size + 1, 0, none⟩ x).setCell ⟨w.heap.size + 1, 1, none⟩ y).setCell ⟨w.heap.size + 1, 2, none⟩ t) := by
  have le : w.heap.size ≤ w.heap.size + 1 := Nat.le_succ _
  exact ((h.bel.setCell (p := ⟨w.heap.size + 1, 0, none⟩) le x).setCell (p := ⟨w.heap.size + 1, 1, none⟩) le y).setCell (p := ⟨w.heap.size + 1, 2, none⟩) le t
theorem draw_seed (vals : List ByteArray) (A : Option Addr) (n c : Nat) (seed : ByteArray) (z : Int) (m : Nat) (w : World) (hn : vals.length = n) (hm : n ≤ 1000) (h : SLs w w.heap.size A vals) (hz : (n : Int) ≤ z) (hz1 : z < 2147483647)
    (he : seed.toList.isEmpty = false) (hm0 : 1 ≤ m) (hm1 : m < 18446744073709551616) (hs : seed.size ≤ 100000) (hT : Tab10 w) :
    Calls Tryz.prog 101 #[.agg #[.slice A n c, .string seed, .int .i64 z], .string (B m)] w fun e w' => seedPost (tryF seed z m) n seed z vals e w' ∧ Below w.heap.size w w' := by
  have hzw : IntKind.i64.wrap (z + 1) = z + 1 := by rw [IntKind.wrap_i64]; omega
  have i1 : ¬ z < (n : Int) := by omega
  have i3 : (z == 2147483647) = false := by rw [beq_eq_false_iff_ne]; omega
  have hmk := make_strs n (by omega)
  have HN := Lib.hid hn
  have HS := Lib.hid h
  have HT := Lib.hid hT
  have HZ := Lib.hid (And.intro hz hz1)
  clear hn h hT hz1
  go_enter Tryz.func101, Tryz.ntmps101
  go_wp2_with fail
  have d0 : ((w.alloc (.cells #[.slice A n c, .string seed, .int .i64 z] 48)).alloc (.cells #[.slice none 0 0, .string ⟨#[]⟩, .int .i64 0] 48)).cell? ⟨w.heap.size, 0, none⟩ = some (.slice A n c) := by simp [go_sem]
  have d1 : ((w.alloc (.cells #[.slice A n c, .string seed, .int .i64 z] 48)).alloc (.cells #[.slice none 0 0, .string ⟨#[]⟩, .int .i64 0] 48)).cell? ⟨w.heap.size, 1, none⟩ = some (.string seed) := by simp [go_sem]
  have d2 : ((w.alloc (.cells #[.slice A n c, .string seed, .int .i64 z] 48)).alloc (.cells #[.slice none 0 0, .string ⟨#[]⟩, .int .i64 0] 48)).cell? ⟨w.heap.size, 2, none⟩ = some (.int .i64 z) := by simp [go_sem]
  go_region_held3 (fun w' => w'.cell? ⟨w.heap.size, 0, none⟩ = some (.slice A n c) ∧ w'.cell? ⟨w.heap.size, 1, none⟩ = some (.string seed) ∧ w'.cell? ⟨w.heap.size, 2, none⟩ = some (.int .i64 z)) (first | go_keep) (first | fail)
  all_goals
    first
      | (refine world_on (fun wx => AtD w wx (w.heap.size + 1 + 1) (w.heap.size + 1 + 1 + 1) A n c seed z (List.replicate n (.string ByteArray.empty))) (atD_A w A n c seed z hzw) ?_
         intro wx hx
         generalize w.heap.size + 1 + 1 + 1 = gs at hx ⊢
         generalize w.heap.size + 1 + 1 = gb at hx ⊢)
      | (refine world_on (fun wx => AtD w wx (w.heap.size + 1 + 1 + 1) (w.heap.size + 1 + 1) A n c seed z (List.replicate n (.string ByteArray.empty))) (atD_B w A n c seed z hzw) ?_
         intro wx hx
         generalize w.heap.size + 1 + 1 + 1 = gb at hx ⊢
         generalize w.heap.size + 1 + 1 = gs at hx ⊢)
    have x0 := hx.t0
    have x2 := hx.t2
    obtain ⟨y0, y1, y2⟩ := hx.b0
    have HX := Lib.hid hx
    clear hx
    have KBT := Lib.hid (fun w => natural_Bits (B m) w)
    have hbb : natBits (B m) = bitsN m := by unfold natBits; rw [valid_B (Nat.lt_trans hm1 (by decide)), num_B]; rfl
    rw [hbb] at KBT
    obtain ⟨bl, hbl⟩ : ∃ bl, bl = bitsN m := ⟨_, rfl⟩
    rw [← hbl] at KBT
    have hbl0 : 1 ≤ bl := by rw [hbl]; unfold bitsN; rw [if_neg (by omega)]; omega
    have hbl1 : bl ≤ 256 := by
      rw [hbl]
      unfold bitsN
      rw [if_neg (by omega)]
      have := (Nat.log2_lt (n := m) (k := 64) (by omega)).2 hm1
      omega
    have HBL := Lib.hid hbl
    clear hbb hbl
    go_wp2_with (first
      | (refine wpList_copy_strs rfl (.tmp 56) (.tmp 58) rfl rfl rfl HX.out HS.out HN.out ?_
         intro w6 hx6
         have z0 := hx6.t0
         have z2 := hx6.t2
         have H6 := Lib.hid hx6
         clear hx6))
    clear d0 d1 d2 x0 x2 y0 y1 y2 z0 z2 hmk
    go_loopw [73] (fun v wr => ∃ i : Nat, v = .int .i64 i ∧ i ≤ 256 ∧ AtD w wr gb gs A n c seed z (vals.map Value.string) ∧ ∀ j, j < i → ¬ attN seed z j (bitsN m) < m) (fun v _ => 256 - (intOf v).toNat)
    case atStart => exact ⟨0, rfl, by decide, H6.out, fun j h => absurd h (by omega)⟩
    case round =>
      clear H6 HX
      obtain ⟨i, rfl, hi, hat, hno⟩ := hrel
      have HA := Lib.hid hat
      have HNO := Lib.hid hno
      clear hat hno
      by_cases hlt : i < 256
      · obtain ⟨x, hx⟩ : ∃ x, x = attN seed z i bl := ⟨_, rfl⟩
        have hxl : x < 2 ^ 64 := by
          rw [hx]
          refine Nat.lt_of_lt_of_le (Nat.mod_lt _ (Nat.pow_pos (by decide))) (Nat.pow_le_pow_right (by decide) ?_)
          rw [HBL.out]
          unfold bitsN
          rw [if_neg (by omega)]
          have := (Nat.log2_lt (n := m) (k := 64) (by omega)).2 hm1
          omega
        have KAT := Lib.hid (fun wq (hT : Tab10 wq) => coins_attempt A n c seed z i bl wq (by omega) (by have := HZ.out.2; omega) (by omega) (by omega) hs hT hbl0 hbl1)
        rw [← hx] at KAT
        have HAD : Hid (AtD w wr.drew gb gs A n c seed z (vals.map Value.string)) := Lib.hid (HA.out.next (Below.refl _ _).drew)
        have HTD : Hid (Tab10 wr.drew) := Lib.hid (HT.out.below HAD.out.bel)
        have t0 := HA.out.t0
        have t1 := HA.out.t1
        have t2 := HA.out.t2
        have KC := Lib.hid (fun w => natural_Cmp (B x) (B m) w)
        rw [natCmp_BB (Nat.lt_trans hxl (by decide)) (Nat.lt_trans hm1 (by decide))] at KC
        have p1 : (i : Int) < 256 := by omega
        have HLT := Lib.hid hlt
        have HXX := Lib.hid hx
        clear hx hxl hlt hi
        by_cases hxm : x < m
        · rw [show cmpN x m = -1 from by unfold cmpN; rw [if_pos hxm]] at KC
          have HXM := Lib.hid hxm
          clear hxm
          go_wp2_with fail
          go_region_held3 (fun w' => w'.cell? ⟨w.heap.size, 0, none⟩ = some (.slice A n c) ∧ w'.cell? ⟨w.heap.size, 1, none⟩ = some (.string seed) ∧ w'.cell? ⟨w.heap.size, 2, none⟩ = some (.int .i64 z)) (first | go_keep) (first | (go_at_call 71; (with_reducible refine (KBT.out _).mono ?_); rintro e w' ⟨rfl, rfl⟩) | (go_at_call 157; (with_reducible refine (KAT.out _ HTD.out).mono ?_); rintro e w7 ⟨rfl, hb7⟩; have HA7 := Lib.hid (HAD.out.next hb7); have u0 := HA7.out.t0; have u1 := HA7.out.t1; have u2 := HA7.out.t2; clear hb7))
          have htry : tryF seed z m = some x := by
            rw [HXX.out, HBL.out]
            exact find_hit HLT.out HNO.out (by rw [← HBL.out, ← HXX.out]; exact HXM.out)
          have HTRY := Lib.hid htry
          obtain ⟨v0, v1, v2⟩ := HA7.out.b0
          obtain ⟨r0, r1, r2, rf⟩ := HA7.out.r0
          have rf0 := rf 0
          have rf1 := rf 1
          have rf2 := rf 2
          clear htry rf
          go_wp2_with (first | (go_at_call 54; (with_reducible refine (KC.out _).mono ?_); rintro e w8 ⟨rfl, rfl⟩))
          go_region_held3 (fun w' => w'.cell? ⟨gb, 0, none⟩ = some (.slice (some ⟨gs, 0, none⟩) n n) ∧ w'.cell? ⟨gb, 1, none⟩ = some (.string seed) ∧ w'.cell? ⟨gb, 2, none⟩ = some (.int .i64 (z + 1)) ∧ (∃ u, w'.cell? ⟨w.heap.size + 1, 0, none⟩ = some u) ∧ (∃ u, w'.cell? ⟨w.heap.size + 1, 1, none⟩ = some u) ∧ (∃ u, w'.cell? ⟨w.heap.size + 1, 2, none⟩ = some u) ∧ w'.frozen? ⟨w.heap.size + 1, 0, none⟩ = false ∧ w'.frozen? ⟨w.heap.size + 1, 1, none⟩ = false ∧ w'.frozen? ⟨w.heap.size + 1, 2, none⟩ = false) (first | (with_reducible exact HA7.out.stored9) | go_keep) (first | fail)
          all_goals
            go_wp2_with fail
            exact bodyPost_ret (v := .tuple #[.string (B x), .agg #[.slice (some ⟨gs, 0, none⟩) n n, .string seed, .int .i64 (z + 1)], .int .i64 0]) (by simp [results, Tryz.results101, go_sem, r0, r1, r2]) rfl ⟨by rw [HTRY.out]; exact ⟨_, rfl, HA7.out.res.1⟩, HA7.out.res.2⟩
        · obtain ⟨y, hy, hy0⟩ : ∃ y : Int, cmpN x m = y ∧ 0 ≤ y := ⟨_, rfl, by unfold cmpN; rw [if_neg hxm]; split <;> decide⟩
          rw [hy] at KC
          have HXM := Lib.hid hxm
          clear hy hxm
          go_wp2_with fail
          go_region_held3 (fun w' => w'.cell? ⟨w.heap.size, 0, none⟩ = some (.slice A n c) ∧ w'.cell? ⟨w.heap.size, 1, none⟩ = some (.string seed) ∧ w'.cell? ⟨w.heap.size, 2, none⟩ = some (.int .i64 z)) (first | go_keep) (first | (go_at_call 71; (with_reducible refine (KBT.out _).mono ?_); rintro e w' ⟨rfl, rfl⟩) | (go_at_call 157; (with_reducible refine (KAT.out _ HTD.out).mono ?_); rintro e w7 ⟨rfl, hb7⟩; have HA7 := Lib.hid (HAD.out.next hb7); have u0 := HA7.out.t0; have u1 := HA7.out.t1; have u2 := HA7.out.t2; clear hb7))
          go_wp2_with (first | (go_at_call 54; (with_reducible refine (KC.out _).mono ?_); rintro e w8 ⟨rfl, rfl⟩))
          go_roundw
          case rel =>
            refine ⟨i + 1, rfl, HLT.out, HA7.out, fun j hj => ?_⟩
            by_cases e : j = i
            · subst e; rw [← HBL.out, ← HXX.out]; exact HXM.out
            · exact HNO.out j (by omega)
          case measure => have := HLT.out; show 256 - ((i : Int) + 1).toNat < 256 - (i : Int).toNat; omega
      · obtain rfl : i = 256 := by omega
        have HTRY := Lib.hid (find_miss HNO.out)
        obtain ⟨r0, r1, r2, rf⟩ := HA.out.r0
        have rf0 := rf 0
        have rf1 := rf 1
        have rf2 := rf 2
        clear rf
        go_wp2_with fail
        exact bodyPost_ret (v := .tuple #[.string ⟨#[]⟩, .agg #[.slice none 0 0, .string ⟨#[]⟩, .int .i64 0], .int .i64 14]) (by simp [results, Tryz.results101, go_sem, r0, r1, r2]) rfl ⟨by rw [HTRY.out]; rfl, by first | exact HA.out.bel3 | exact HA.out.bel⟩

end Go.Proofs.YtkdbemdobfddoaaGreatDoor

namespace Go.Proofs.YtkdbemdobfddoaaGreatDoor
open Go.RowKit
set_option maxRecDepth 100000
set_option linter.unusedVariables false
set_option maxHeartbeats 4000000

/-- What a draw hands back: the coin and the next tape, or the error. -/
def drawPost (d : Int × Nat) (n : Nat) (seed : ByteArray) (z : Int) (vals : List ByteArray) (e : Ending) (w' : World) : Prop :=
  (d.1 = 0 ∧ ∃ g, e = .returned (.tuple #[.string (B d.2), .agg #[.slice (some ⟨g, 0, none⟩) n n, .string seed, .int .i64 (z + 1)], .int .i64 0]) ∧ SLs w' w'.heap.size (some ⟨g, 0, none⟩) vals) ∨
  (d.1 ≠ 0 ∧ e = .returned (.tuple #[.string ⟨#[]⟩, .agg #[.slice none 0 0, .string ⟨#[]⟩, .int .i64 0], .int .i64 d.1]))
theorem good_parts {vals : List ByteArray} {z : Int} (h : goodT vals z = true) : 0 ≤ z ∧ z ≤ 2147483647 ∧ vals.all valid = true := by
  unfold goodT at h
  simpa using h
theorem coins_draw (vals : List ByteArray) (A : Option Addr) (n c : Nat) (seed : ByteArray) (z : Int) (m : Nat) (w : World) (hn : vals.length = n) (hm : n ≤ 1000) (h : SLs w w.heap.size A vals) (hg : goodT vals z = true)
    (hm0 : 1 ≤ m) (hm1 : m < 18446744073709551616) (hs : seed.size ≤ 100000) (hT : Tab10 w) :
    Calls Tryz.prog 101 #[.agg #[.slice A n c, .string seed, .int .i64 z], .string (B m)] w fun e w' => drawPost (drawS vals seed z m) n seed z vals e w' ∧ Below w.heap.size w w' := by
  obtain ⟨h0, h1, hall⟩ := good_parts hg
  by_cases hz : z < (n : Int)
  · obtain ⟨k, rfl⟩ : ∃ k : Nat, z = (k : Int) := ⟨z.toNat, by omega⟩
    have hk : k < n := by omega
    have hvalid : valid (vals.getD k ByteArray.empty) = true := by
      rw [List.all_eq_true] at hall
      rw [sgetD_lt (by omega)]
      exact hall _ (List.getElem_mem _)
    have hv := (B_num hvalid).symm
    have hv1 := valid_num_lt hvalid
    have hd : drawS vals seed (k : Int) m = if m ≤ num (vals.getD k ByteArray.empty) then (2, 0) else (0, num (vals.getD k ByteArray.empty)) := by
      unfold drawS
      rw [if_pos (by rw [hn]; exact hz)]
      rfl
    by_cases hvm : m ≤ num (vals.getD k ByteArray.empty)
    · rw [hd, if_pos hvm]
      refine (draw_high vals A n c seed k _ m w hn hm h hk hv hv1 hvm hm1).mono ?_
      rintro e w' ⟨rfl, hb⟩
      exact ⟨.inr ⟨by decide, rfl⟩, hb⟩
    · rw [hd, if_neg hvm]
      refine (draw_value vals A n c seed k _ m w hn hm h hk hv hv1 (by omega) hm1 hs).mono ?_
      rintro e w' ⟨⟨g, rfl, hg⟩, hb⟩
      exact ⟨.inl ⟨rfl, g, rfl, hg⟩, hb⟩
  · by_cases hq : seed.toList.isEmpty = true ∨ z = 2147483647
    · have hd : drawS vals seed z m = (14, 0) := by unfold drawS; rw [if_neg (by rw [hn]; exact hz), if_pos hq]
      rw [hd]
      refine (draw_none vals A n c seed z m w hm (by omega) hq).mono ?_
      rintro e w' ⟨rfl, hb⟩
      exact ⟨.inr ⟨by decide, rfl⟩, hb⟩
    · have he : seed.toList.isEmpty = false := by
        cases hh : seed.toList.isEmpty
        · rfl
        · exact absurd (.inl hh) hq
      refine (draw_seed vals A n c seed z m w hn hm h (by omega) (by have : z ≠ 2147483647 := fun e => hq (.inr e); omega) he hm0 hm1 hs hT).mono ?_
      rintro e w' ⟨hp, hb⟩
      refine ⟨?_, hb⟩
      unfold drawS
      rw [if_neg (by rw [hn]; exact hz), if_neg hq]
      cases ht : tryF seed z m with
      | some x =>
        rw [ht] at hp
        obtain ⟨g, rfl, hg⟩ := hp
        exact .inl ⟨rfl, g, rfl, hg⟩
      | none =>
        rw [ht] at hp
        have hp' : e = .returned (.tuple #[.string ⟨#[]⟩, .agg #[.slice none 0 0, .string ⟨#[]⟩, .int .i64 0], .int .i64 14]) := hp
        subst hp'
        exact .inr ⟨by decide, rfl⟩
/-- A tape in its box, and the box of the result. -/
structure AtB (w wx : World) (A : Option Addr) (n c : Nat) (seed : ByteArray) (z : Int) : Prop where
  t0 : wx.cell? ⟨w.heap.size, 0, none⟩ = some (.slice A n c)
  t1 : wx.cell? ⟨w.heap.size, 1, none⟩ = some (.string seed)
  t2 : wx.cell? ⟨w.heap.size, 2, none⟩ = some (.int .i64 z)
  r : wx.heap[w.heap.size + 1]? = some (.cells #[.slice none 0 0, .string ⟨#[]⟩, .int .i64 0] 48 (0, 0))
  bel : Below w.heap.size w wx
theorem AtB.start (w : World) (A : Option Addr) (n c : Nat) (seed : ByteArray) (z : Int) : AtB w ((w.alloc (.cells #[.slice A n c, .string seed, .int .i64 z] 48)).alloc (.cells #[.slice none 0 0, .string ⟨#[]⟩, .int .i64 0] 48)) A n c seed z :=
  ⟨by simp [go_sem], by simp [go_sem], by simp [go_sem], by have := heap_alloc_new (w.alloc (.cells #[.slice A n c, .string seed, .int .i64 z] 48)) (.cells #[.slice none 0 0, .string ⟨#[]⟩, .int .i64 0] 48); rwa [World.size_alloc] at this, below_res w _ _⟩
section
variable {w wx wy : World} {A : Option Addr} {n c : Nat} {seed : ByteArray} {z : Int} {x y t : Value}
theorem AtB.next (h : AtB w wx A n c seed z) (hb : Below wx.heap.size wx wy) : AtB w wy A n c seed z := by
  have lr : w.heap.size + 1 < wx.heap.size := (Array.getElem?_eq_some_iff.1 h.r).1
  exact ⟨(hb.cell (p := ⟨w.heap.size, 0, none⟩) (by show w.heap.size < _; omega)).trans h.t0, (hb.cell (p := ⟨w.heap.size, 1, none⟩) (by show w.heap.size < _; omega)).trans h.t1, (hb.cell (p := ⟨w.heap.size, 2, none⟩) (by show w.heap.size < _; omega)).trans h.t2,
    (hb.block _ lr).trans h.r, h.bel.trans (hb.mono (by omega))⟩
theorem AtB.r0 (h : AtB w wx A n c seed z) : wx.cell? ⟨w.heap.size + 1, 0, none⟩ = some (.slice none 0 0) ∧ wx.cell? ⟨w.heap.size + 1, 1, none⟩ = some (.string ⟨#[]⟩) ∧ wx.cell? ⟨w.heap.size + 1, 2, none⟩ = some (.int .i64 0) ∧
    wx.frozen? ⟨w.heap.size + 1, 0, none⟩ = false ∧ wx.frozen? ⟨w.heap.size + 1, 1, none⟩ = false ∧ wx.frozen? ⟨w.heap.size + 1, 2, none⟩ = false := by
  refine ⟨?_, ?_, ?_, ?_, ?_, ?_⟩ <;> simp [World.cell?, World.frozen?, h.r]
theorem AtB.bel3 (h : AtB w wx A n c seed z) : Below w.heap.size w (((wx.setCell ⟨w.heap.size + 1, 0, none⟩ x).setCell ⟨w.heap.size + 1, 1, none⟩ y).setCell ⟨w.heap.size + 1, 2, none⟩ t) := by
  have le : w.heap.size ≤ w.heap.size + 1 := Nat.le_succ _
  exact ((h.bel.setCell (p := ⟨w.heap.size + 1, 0, none⟩) le x).setCell (p := ⟨w.heap.size + 1, 1, none⟩) le y).setCell (p := ⟨w.heap.size + 1, 2, none⟩) le t
theorem AtB.keepS {g : Nat} {vals : List ByteArray} (h : AtB w wx A n c seed z) (hs : SLs wx wx.heap.size (some ⟨g, 0, none⟩) vals) :
    SLs (((wx.setCell ⟨w.heap.size + 1, 0, none⟩ x).setCell ⟨w.heap.size + 1, 1, none⟩ y).setCell ⟨w.heap.size + 1, 2, none⟩ t) (((wx.setCell ⟨w.heap.size + 1, 0, none⟩ x).setCell ⟨w.heap.size + 1, 1, none⟩ y).setCell ⟨w.heap.size + 1, 2, none⟩ t).heap.size (some ⟨g, 0, none⟩) vals := by
  intro hne
  obtain ⟨ad, e, hb, hc⟩ := hs hne
  injection e with e
  subst e
  have h0 := hc 0 (List.length_pos_iff.mpr hne)
  rw [addr_add] at h0
  have hg : w.heap.size + 1 ≠ g := by
    intro e
    have := h.r0.1
    rw [e] at this
    rw [show 0 + 0 = 0 from rfl, this] at h0
    cases h0
  refine ⟨_, rfl, by simpa using hb, fun j hj => ?_⟩
  have hj' := hc j hj
  rw [addr_add] at hj' ⊢
  exact hop3 (by show w.heap.size + 1 ≠ g; exact hg) hj'
end
theorem readyT_bad {vals : List ByteArray} {z : Int} {m : ByteArray} (h : goodT vals z = false) : readyT vals z m = 3 := by unfold readyT; rw [h]; rfl
theorem readyT_good {vals : List ByteArray} {z : Int} {m : Nat} (h : goodT vals z = true) (hm0 : 1 ≤ m) (hm1 : m < lim) : readyT vals z (B m) = 0 := by
  unfold readyT
  rw [h, valid_B hm1, B_isEmpty_false (by omega)]
  rfl
/-- A draw below m from a tape. -/
def belowS (vals : List ByteArray) (seed : ByteArray) (z : Int) (m : Nat) : Int × Nat := if goodT vals z = true then drawS vals seed z m else (3, 0)
theorem coins_Below (vals : List ByteArray) (A : Option Addr) (n c : Nat) (seed : ByteArray) (z : Int) (m : Nat) (w : World) (hn : vals.length = n) (hm : n ≤ 1000) (h : SLs w w.heap.size A vals)
    (hm0 : 1 ≤ m) (hm1 : m < 18446744073709551616) (hs : seed.size ≤ 100000) (hT : Tab10 w) :
    Calls Tryz.prog 44 #[.agg #[.slice A n c, .string seed, .int .i64 z], .string (B m)] w fun e w' => drawPost (belowS vals seed z m) n seed z vals e w' ∧ Below w.heap.size w w' := by
  have hb0 : Below w.heap.size w ((w.alloc (.cells #[.slice A n c, .string seed, .int .i64 z] 48)).alloc (.cells #[.slice none 0 0, .string ⟨#[]⟩, .int .i64 0] 48)) := below_res w _ _
  have KR := Lib.hid (coins_ready vals A n c w.heap.size seed (B m) z _ hn (by omega) (h.below hb0) hb0.size)
  have HB0 := Lib.hid hb0
  have HN := Lib.hid hn
  have HS := Lib.hid h
  have HT := Lib.hid hT
  have HA0 := Lib.hid (AtB.start w A n c seed z)
  cases hg : goodT vals z
  · rw [readyT_bad hg] at KR
    have hd : belowS vals seed z m = (3, 0) := by unfold belowS; rw [hg]; rfl
    rw [hd]
    clear hb0 hn h hT hd hg
    go_enter Tryz.func44, Tryz.ntmps44
    go_wp2_with (first | (go_at_call 100; (with_reducible refine KR.out.mono ?_); rintro e w1 ⟨rfl, hb1⟩
                          have HA1 := Lib.hid (HA0.out.next hb1)
                          obtain ⟨r0, r1, r2, g0, g1, g2⟩ := HA1.out.r0
                          clear hb1))
    exact bodyPost_ret (v := .tuple #[.string ⟨#[]⟩, .agg #[.slice none 0 0, .string ⟨#[]⟩, .int .i64 0], .int .i64 3]) (by simp [results, Tryz.results44, go_sem, r0, r1, r2]) rfl ⟨.inr ⟨by decide, rfl⟩, HA1.out.bel3⟩
  · rw [readyT_good hg hm0 (Nat.lt_trans hm1 (by decide))] at KR
    have hd : belowS vals seed z m = drawS vals seed z m := by unfold belowS; rw [hg]; rfl
    rw [hd]
    have KD := Lib.hid (fun wq (h1 : Below w.heap.size w wq) => coins_draw vals A n c seed z m wq hn hm ((h.below h1).more h1.size) hg hm0 hm1 hs (hT.below h1))
    obtain ⟨d, hdd⟩ : ∃ d, d = drawS vals seed z m := ⟨_, rfl⟩
    rw [← hdd] at KD ⊢
    clear hb0 hn h hT hd hg hdd
    by_cases h0 : d.1 = 0
    · have KE : Hid (∀ wq, Below w.heap.size w wq → Calls Tryz.prog 101 #[.agg #[.slice A n c, .string seed, .int .i64 z], .string (B m)] wq fun e w' => (∃ g, e = .returned (.tuple #[.string (B d.2), .agg #[.slice (some ⟨g, 0, none⟩) n n, .string seed, .int .i64 (z + 1)], .int .i64 0]) ∧ SLs w' w'.heap.size (some ⟨g, 0, none⟩) vals) ∧ Below wq.heap.size wq w') := Lib.hid (fun wq h1 => (KD.out wq h1).mono (by
        rintro e w' ⟨⟨_, hp⟩ | ⟨h, _⟩, hb⟩
        · exact ⟨hp, hb⟩
        · exact absurd h0 h))
      have H0 := Lib.hid h0
      clear h0 KD
      go_enter Tryz.func44, Tryz.ntmps44
      go_wp2_with (first
        | (go_at_call 100; (with_reducible refine KR.out.mono ?_); rintro e w1 ⟨rfl, hb1⟩
           have HA1 := Lib.hid (HA0.out.next hb1)
           have t0 := HA1.out.t0
           have t1 := HA1.out.t1
           have t2 := HA1.out.t2
           clear hb1)
        | (go_at_call 101; (with_reducible refine (KE.out _ HA1.out.bel).mono ?_); rintro e w2 ⟨⟨g, rfl, hsl⟩, hb2⟩
           have HA2 := Lib.hid (HA1.out.next hb2)
           have HSL := Lib.hid hsl
           obtain ⟨r0, r1, r2, g0, g1, g2⟩ := HA2.out.r0
           clear hb2 hsl))
      refine bodyPost_ret (v := .tuple #[.string (B d.2), .agg #[.slice (some ⟨g, 0, none⟩) n n, .string seed, .int .i64 (z + 1)], .int .i64 0]) (by simp [results, Tryz.results44, go_sem, r0, r1, r2]) rfl ⟨.inl ⟨H0.out, g, rfl, ?_⟩, HA2.out.bel3⟩
      exact HA2.out.keepS HSL.out
    · have KE : Hid (∀ wq, Below w.heap.size w wq → Calls Tryz.prog 101 #[.agg #[.slice A n c, .string seed, .int .i64 z], .string (B m)] wq fun e w' => e = .returned (.tuple #[.string ⟨#[]⟩, .agg #[.slice none 0 0, .string ⟨#[]⟩, .int .i64 0], .int .i64 d.1]) ∧ Below wq.heap.size wq w') := Lib.hid (fun wq h1 => (KD.out wq h1).mono (by
        rintro e w' ⟨⟨h, _⟩ | ⟨_, hp⟩, hb⟩
        · exact absurd h h0
        · exact ⟨hp, hb⟩))
      have H0 := Lib.hid h0
      clear h0 KD
      go_enter Tryz.func44, Tryz.ntmps44
      go_wp2_with (first
        | (go_at_call 100; (with_reducible refine KR.out.mono ?_); rintro e w1 ⟨rfl, hb1⟩
           have HA1 := Lib.hid (HA0.out.next hb1)
           have t0 := HA1.out.t0
           have t1 := HA1.out.t1
           have t2 := HA1.out.t2
           clear hb1)
        | (go_at_call 101; (with_reducible refine (KE.out _ HA1.out.bel).mono ?_); rintro e w2 ⟨rfl, hb2⟩
           have HA2 := Lib.hid (HA1.out.next hb2)
           obtain ⟨r0, r1, r2, g0, g1, g2⟩ := HA2.out.r0
           clear hb2))
      exact bodyPost_ret (v := .tuple #[.string ⟨#[]⟩, .agg #[.slice none 0 0, .string ⟨#[]⟩, .int .i64 0], .int .i64 d.1]) (by simp [results, Tryz.results44, go_sem, r0, r1, r2]) rfl ⟨.inr ⟨H0.out, rfl⟩, HA2.out.bel3⟩

end Go.Proofs.YtkdbemdobfddoaaGreatDoor
