/- The walks of package coins: a draw. -/
import Derived.Test.YtfggpgiinihflaaDoorY3
import Derived.Deep.RegionLaw
import Derived.Deep.RegionHeld3
import Derived.Deep.DeepCutAuto
import Derived.Deep.CutBlock
namespace Go.Proofs.YtfggpgiinihflaaDoor
open Go.RowKit
set_option maxRecDepth 100000
set_option linter.unusedVariables false
set_option maxHeartbeats 4000000

/-- The first of 256 attempts that gives a coin below m. -/
def tryF (seed : ByteArray) (z : Int) (m : Nat) : Option Nat := (List.range 256).findSome? fun (a : Nat) => if attN seed z a (bitsN m) < m then some (attN seed z a (bitsN m)) else none
/-- A draw below m from a well-formed tape: the error and the coin. -/
def drawS (vals : List ByteArray) (seed : ByteArray) (z : Int) (m : Nat) : Int × Nat :=
  if z < vals.length then (if m ≤ num (vals.getD z.toNat ByteArray.empty) then (2, 0) else (0, num (vals.getD z.toNat ByteArray.empty)))
  else if seed.toList.isEmpty = true ∨ z = 2147483647 then (14, 0)
  else match tryF seed z m with
    | some x => (0, x)
    | none => (14, 0)
theorem madeCells_strs (n : Nat) : madeCells #[Value.string ByteArray.empty] n = (List.replicate n (Value.string ByteArray.empty)).toArray := by
  apply Array.ext
  · simp [madeCells]
  · intro i h1 h2
    simp [madeCells, Nat.mod_one]
theorem make_strs (n : Nat) (h : n ≤ 1000000) (w : World) : (Instr.makeSlice 22 (.int .i64 (n : Int)) (.int .i64 (n : Int))).run Tryd.prog w =
    .ok (.slice (some ⟨w.heap.size, 0, none⟩) n n) (w.alloc (.cells (List.replicate n (Value.string ByteArray.empty)).toArray 28)) := by
  rw [← madeCells_strs]
  exact run_make_row' 22 28 (.string ByteArray.empty) 16 Tryd.underlying22 nat_info rfl .i64 .i64 n (by omega) (by omega) w
theorem world_on {α : Exit → Act → World → Prop} {e : Exit} {a : Act} {WX : World} (R : World → Prop) (hR : R WX) (h : ∀ wx, R wx → α e a wx) : α e a WX := h WX hR
/-- What lies in memory while a draw is made: the tape, the result, the next tape with its values. -/
structure AtD (w wx : World) (gb gs : Nat) (A : Option Addr) (n c : Nat) (seed : ByteArray) (z : Int) (ls : List Value) : Prop where
  t0 : wx.cell? ⟨w.heap.size, 0, none⟩ = some (.slice A n c)
  t1 : wx.cell? ⟨w.heap.size, 1, none⟩ = some (.string seed)
  t2 : wx.cell? ⟨w.heap.size, 2, none⟩ = some (.int .i64 z)
  r : wx.heap[w.heap.size + 1]? = some (.cells #[.slice none 0 0, .string ⟨#[]⟩, .int .i64 0] 24 (0, 0))
  b : wx.heap[gb]? = some (.cells #[.slice (some ⟨gs, 0, none⟩) n n, .string seed, .int .i64 (z + 1)] 24 (0, 0))
  s : wx.heap[gs]? = some (.cells ls.toArray 28 (0, 0))
  hb : w.heap.size + 2 ≤ gb
  hs : w.heap.size + 2 ≤ gs
  ne : gb ≠ gs
  bel : Below w.heap.size w wx
theorem AtD.b0 {w wx : World} {gb gs n c : Nat} {A : Option Addr} {seed : ByteArray} {z : Int} {ls : List Value} (h : AtD w wx gb gs A n c seed z ls) :
    wx.cell? ⟨gb, 0, none⟩ = some (.slice (some ⟨gs, 0, none⟩) n n) ∧ wx.cell? ⟨gb, 1, none⟩ = some (.string seed) ∧ wx.cell? ⟨gb, 2, none⟩ = some (.int .i64 (z + 1)) := by
  simp [World.cell?, h.b]
theorem AtD.r0 {w wx : World} {gb gs n c : Nat} {A : Option Addr} {seed : ByteArray} {z : Int} {ls : List Value} (h : AtD w wx gb gs A n c seed z ls) :
    wx.cell? ⟨w.heap.size + 1, 0, none⟩ = some (.slice none 0 0) ∧ wx.cell? ⟨w.heap.size + 1, 1, none⟩ = some (.string ⟨#[]⟩) ∧ wx.cell? ⟨w.heap.size + 1, 2, none⟩ = some (.int .i64 0) ∧ (∀ k, wx.frozen? ⟨w.heap.size + 1, k, none⟩ = false) := by
  refine ⟨?_, ?_, ?_, fun k => ?_⟩ <;> simp [World.cell?, World.frozen?, h.r]
theorem AtD.row {w wx : World} {gb gs n c : Nat} {A : Option Addr} {seed : ByteArray} {z : Int} {vals : List ByteArray} (h : AtD w wx gb gs A n c seed z (vals.map Value.string)) : SRow wx gs vals := by
  intro j hj
  simp only [World.cell?, h.s]
  simp [List.getD, hj]
theorem AtD.lt {w wx : World} {gb gs n c : Nat} {A : Option Addr} {seed : ByteArray} {z : Int} {ls : List Value} (h : AtD w wx gb gs A n c seed z ls) : gs < wx.heap.size := (Array.getElem?_eq_some_iff.1 h.s).1
theorem AtD.copied {w wx : World} {gb gs n c : Nat} {A : Option Addr} {seed : ByteArray} {z : Int} {ls ms : List Value} (h : AtD w wx gb gs A n c seed z ls) : AtD w (wx.setRow gs ms.toArray) gb gs A n c seed z ms := by
  have hX : w.heap.size ≠ gs := by have := h.hs; omega
  have hX1 : w.heap.size + 1 ≠ gs := by have := h.hs; omega
  refine ⟨?_, ?_, ?_, (setRow_other wx gs _ _ hX1).trans h.r, (setRow_other wx gs _ _ h.ne).trans h.b, setRow_heap wx gs _ _ _ _ h.s, h.hb, h.hs, h.ne, below_setRow h.bel (by have := h.hs; omega) _⟩
  · exact (World.cell?_of_block (setRow_other wx gs _ _ hX)).trans h.t0
  · exact (World.cell?_of_block (setRow_other wx gs _ _ hX)).trans h.t1
  · exact (World.cell?_of_block (setRow_other wx gs _ _ hX)).trans h.t2
theorem new4 (w : World) (a b c d : Obj) : ((((w.alloc a).alloc b).alloc c).alloc d).drew.heap[w.heap.size + 1]? = some b ∧ ((((w.alloc a).alloc b).alloc c).alloc d).drew.heap[w.heap.size + 1 + 1]? = some c ∧ ((((w.alloc a).alloc b).alloc c).alloc d).drew.heap[w.heap.size + 1 + 1 + 1]? = some d := by
  have h2 : ((w.alloc a).alloc b).heap[w.heap.size + 1]? = some b := by have := heap_alloc_new (w.alloc a) b; rwa [World.size_alloc] at this
  have h3 : (((w.alloc a).alloc b).alloc c).heap[w.heap.size + 1 + 1]? = some c := by have := heap_alloc_new ((w.alloc a).alloc b) c; rwa [World.size_alloc, World.size_alloc] at this
  have h4 : ((((w.alloc a).alloc b).alloc c).alloc d).heap[w.heap.size + 1 + 1 + 1]? = some d := by have := heap_alloc_new (((w.alloc a).alloc b).alloc c) d; rwa [World.size_alloc, World.size_alloc, World.size_alloc] at this
  exact ⟨(Below.heap_alloc _ _ _ (by simp)).trans ((Below.heap_alloc _ _ _ (by simp)).trans h2), (Below.heap_alloc _ _ _ (by simp)).trans h3, h4⟩
theorem atD_A (w : World) (A : Option Addr) (n c : Nat) (seed : ByteArray) (z : Int) (hz : IntKind.i64.wrap (z + 1) = z + 1) :
    AtD w ((((w.alloc (.cells #[.slice A n c, .string seed, .int .i64 z] 24)).alloc (.cells #[.slice none 0 0, .string ⟨#[]⟩, .int .i64 0] 24)).alloc (.cells #[.slice (some ⟨w.heap.size + 1 + 1 + 1, 0, none⟩) n n, .string seed, .int .i64 (z + 1)] 24)).alloc (.cells (Array.replicate n (.string ByteArray.empty)) 28)).drew
      (w.heap.size + 1 + 1) (w.heap.size + 1 + 1 + 1) A n c seed z (List.replicate n (.string ByteArray.empty)) := by
  have hb : Below w.heap.size w ((((w.alloc (.cells #[.slice A n c, .string seed, .int .i64 z] 24)).alloc (.cells #[.slice none 0 0, .string ⟨#[]⟩, .int .i64 0] 24)).alloc (.cells #[.slice (some ⟨w.heap.size + 1 + 1 + 1, 0, none⟩) n n, .string seed, .int .i64 (z + 1)] 24)).alloc (.cells (Array.replicate n (.string ByteArray.empty)) 28)).drew :=
    (((((Below.refl _ _).alloc (Nat.le_refl _) _).alloc (by simp) _).alloc (by simp; omega) _).alloc (by simp; omega) _).drew
  exact ⟨by simp [go_sem], by simp [go_sem], by simp [go_sem], (new4 w _ _ _ _).1, (new4 w _ _ _ _).2.1, (new4 w _ _ _ _).2.2, by omega, by omega, by omega, hb⟩
theorem atD_B (w : World) (A : Option Addr) (n c : Nat) (seed : ByteArray) (z : Int) (hz : IntKind.i64.wrap (z + 1) = z + 1) :
    AtD w ((((w.alloc (.cells #[.slice A n c, .string seed, .int .i64 z] 24)).alloc (.cells #[.slice none 0 0, .string ⟨#[]⟩, .int .i64 0] 24)).alloc (.cells (Array.replicate n (.string ByteArray.empty)) 28)).alloc (.cells #[.slice (some ⟨w.heap.size + 1 + 1, 0, none⟩) n n, .string seed, .int .i64 (z + 1)] 24)).drew
      (w.heap.size + 1 + 1 + 1) (w.heap.size + 1 + 1) A n c seed z (List.replicate n (.string ByteArray.empty)) := by
  have hb : Below w.heap.size w ((((w.alloc (.cells #[.slice A n c, .string seed, .int .i64 z] 24)).alloc (.cells #[.slice none 0 0, .string ⟨#[]⟩, .int .i64 0] 24)).alloc (.cells (Array.replicate n (.string ByteArray.empty)) 28)).alloc (.cells #[.slice (some ⟨w.heap.size + 1 + 1, 0, none⟩) n n, .string seed, .int .i64 (z + 1)] 24)).drew :=
    (((((Below.refl _ _).alloc (Nat.le_refl _) _).alloc (by simp) _).alloc (by simp; omega) _).alloc (by simp; omega) _).drew
  exact ⟨by simp [go_sem], by simp [go_sem], by simp [go_sem], (new4 w _ _ _ _).1, (new4 w _ _ _ _).2.2, (new4 w _ _ _ _).2.1, by omega, by omega, by omega, hb⟩
theorem copy_row (n : Nat) (e : Value) (L : List Value) (h : L.length = n) : ((List.replicate n e).toArray.toList.take 0 ++ (L ++ (List.replicate n e).toArray.toList.drop (0 + L.length))) = L := by
  rw [List.take_zero, List.nil_append, Nat.zero_add, h]
  simp
theorem hop3 {w : World} {r : Nat} {x y z : Value} {a : Addr} {u : Option Value} (h : r ≠ a.block) (hc : w.cell? a = u) : (((w.setCell ⟨r, 0, none⟩ x).setCell ⟨r, 1, none⟩ y).setCell ⟨r, 2, none⟩ z).drew.cell? a = u := by
  have h' : ∀ k, (⟨r, k, none⟩ : Addr) ≠ a := fun k e => h (by rw [← e])
  exact (World.cell?_setCell_other _ _ _ _ (h' 2)).trans ((World.cell?_setCell_other _ _ _ _ (h' 1)).trans ((World.cell?_setCell_other _ _ _ _ (h' 0)).trans hc))
theorem some3 {w : World} {r : Nat} {x y z : Value} {a : Addr} (h : ∃ u, w.cell? a = some u) : ∃ u, (((w.setCell ⟨r, 0, none⟩ x).setCell ⟨r, 1, none⟩ y).setCell ⟨r, 2, none⟩ z).drew.cell? a = some u := by
  obtain ⟨u, hu⟩ := h
  obtain ⟨u1, h1⟩ : ∃ u1, (w.setCell ⟨r, 0, none⟩ x).cell? a = some u1 := cell?_setCell_some hu
  obtain ⟨u2, h2⟩ : ∃ u2, ((w.setCell ⟨r, 0, none⟩ x).setCell ⟨r, 1, none⟩ y).cell? a = some u2 := cell?_setCell_some h1
  obtain ⟨u3, h3⟩ : ∃ u3, (((w.setCell ⟨r, 0, none⟩ x).setCell ⟨r, 1, none⟩ y).setCell ⟨r, 2, none⟩ z).cell? a = some u3 := cell?_setCell_some h2
  exact ⟨u3, h3⟩
theorem free3 {w : World} {r : Nat} {x y z : Value} {a : Addr} {b : Bool} (h : w.frozen? a = b) : (((w.setCell ⟨r, 0, none⟩ x).setCell ⟨r, 1, none⟩ y).setCell ⟨r, 2, none⟩ z).drew.frozen? a = b :=
  (World.frozen?_setCell _ _ _ _).trans ((World.frozen?_setCell _ _ _ _).trans ((World.frozen?_setCell _ _ _ _).trans h))
theorem str_ones (l : List ByteArray) : ∀ v ∈ l.map Value.string, v.oneCell' = true := by
  intro v hv
  obtain ⟨n, _, rfl⟩ := List.mem_map.mp hv
  rfl
theorem src_cells {w wx : World} {ad : Addr} {vals : List ByteArray} (hb : Below w.heap.size w wx) (had : ad.block < w.heap.size) (h : ∀ j, j < vals.length → w.cell? (ad.add j) = some (.string (vals.getD j ByteArray.empty))) :
    ∀ j v, (vals.map Value.string)[j]? = some v → wx.cell? (ad.add j) = some v := by
  intro j v hv
  rw [List.getElem?_map, Option.map_eq_some_iff] at hv
  obtain ⟨x, hx, rfl⟩ := hv
  have hj := (List.getElem?_eq_some_iff.1 hx).1
  rw [hb.cell (by rw [block_of_add]; exact had), h j hj, sgetD_lt hj, (List.getElem?_eq_some_iff.1 hx).2]
theorem AtD.stored {w w6 : World} {gb gs n c : Nat} {ad p : Addr} {seed : ByteArray} {z : Int} {ls : List Value} {u x y t : Value} (h : AtD w w6 gb gs (some ad) n c seed z ls) (hp : p.block < w.heap.size) (hsrc : w6.cell? p = some u) :
    (((w6.setCell ⟨w.heap.size + 1, 0, none⟩ x).setCell ⟨w.heap.size + 1, 1, none⟩ y).setCell ⟨w.heap.size + 1, 2, none⟩ t).drew.cell? ⟨w.heap.size, 0, none⟩ = some (.slice (some ad) n c) ∧
    (((w6.setCell ⟨w.heap.size + 1, 0, none⟩ x).setCell ⟨w.heap.size + 1, 1, none⟩ y).setCell ⟨w.heap.size + 1, 2, none⟩ t).drew.cell? ⟨w.heap.size, 2, none⟩ = some (.int .i64 z) ∧
    (((w6.setCell ⟨w.heap.size + 1, 0, none⟩ x).setCell ⟨w.heap.size + 1, 1, none⟩ y).setCell ⟨w.heap.size + 1, 2, none⟩ t).drew.cell? p = some u ∧
    (((w6.setCell ⟨w.heap.size + 1, 0, none⟩ x).setCell ⟨w.heap.size + 1, 1, none⟩ y).setCell ⟨w.heap.size + 1, 2, none⟩ t).drew.cell? ⟨gb, 0, none⟩ = some (.slice (some ⟨gs, 0, none⟩) n n) ∧
    (((w6.setCell ⟨w.heap.size + 1, 0, none⟩ x).setCell ⟨w.heap.size + 1, 1, none⟩ y).setCell ⟨w.heap.size + 1, 2, none⟩ t).drew.cell? ⟨gb, 1, none⟩ = some (.string seed) ∧
    (((w6.setCell ⟨w.heap.size + 1, 0, none⟩ x).setCell ⟨w.heap.size + 1, 1, none⟩ y).setCell ⟨w.heap.size + 1, 2, none⟩ t).drew.cell? ⟨gb, 2, none⟩ = some (.int .i64 (z + 1)) ∧
    (∃ u, (((w6.setCell ⟨w.heap.size + 1, 0, none⟩ x).setCell ⟨w.heap.size + 1, 1, none⟩ y).setCell ⟨w.heap.size + 1, 2, none⟩ t).drew.cell? ⟨w.heap.size + 1, 0, none⟩ = some u) ∧
    (∃ u, (((w6.setCell ⟨w.heap.size + 1, 0, none⟩ x).setCell ⟨w.heap.size + 1, 1, none⟩ y).setCell ⟨w.heap.size + 1, 2, none⟩ t).drew.cell? ⟨w.heap.size + 1, 1, none⟩ = some u) ∧
    (∃ u, (((w6.setCell ⟨w.heap.size + 1, 0, none⟩ x).setCell ⟨w.heap.size + 1, 1, none⟩ y).setCell ⟨w.heap.size + 1, 2, none⟩ t).drew.cell? ⟨w.heap.size + 1, 2, none⟩ = some u) ∧
    (((w6.setCell ⟨w.heap.size + 1, 0, none⟩ x).setCell ⟨w.heap.size + 1, 1, none⟩ y).setCell ⟨w.heap.size + 1, 2, none⟩ t).drew.frozen? ⟨w.heap.size + 1, 0, none⟩ = false ∧
    (((w6.setCell ⟨w.heap.size + 1, 0, none⟩ x).setCell ⟨w.heap.size + 1, 1, none⟩ y).setCell ⟨w.heap.size + 1, 2, none⟩ t).drew.frozen? ⟨w.heap.size + 1, 1, none⟩ = false ∧
    (((w6.setCell ⟨w.heap.size + 1, 0, none⟩ x).setCell ⟨w.heap.size + 1, 1, none⟩ y).setCell ⟨w.heap.size + 1, 2, none⟩ t).drew.frozen? ⟨w.heap.size + 1, 2, none⟩ = false := by
  obtain ⟨v0, v1, v2⟩ := h.b0
  obtain ⟨r0, r1, r2, rf⟩ := h.r0
  have hb := h.hb
  have nX : w.heap.size + 1 ≠ w.heap.size := by omega
  have nb : w.heap.size + 1 ≠ gb := by omega
  exact ⟨hop3 nX h.t0, hop3 nX h.t2, hop3 (by omega) hsrc, hop3 nb v0, hop3 nb v1, hop3 nb v2, some3 ⟨_, r0⟩, some3 ⟨_, r1⟩, some3 ⟨_, r2⟩, free3 (rf 0), free3 (rf 1), free3 (rf 2)⟩
theorem AtD.res {w w6 : World} {gb gs n c : Nat} {A : Option Addr} {seed : ByteArray} {z : Int} {vals : List ByteArray} {x y t : Value} (h : AtD w w6 gb gs A n c seed z (vals.map Value.string)) :
    SLs (((w6.setCell ⟨w.heap.size + 1, 0, none⟩ x).setCell ⟨w.heap.size + 1, 1, none⟩ y).setCell ⟨w.heap.size + 1, 2, none⟩ t).drew (((w6.setCell ⟨w.heap.size + 1, 0, none⟩ x).setCell ⟨w.heap.size + 1, 1, none⟩ y).setCell ⟨w.heap.size + 1, 2, none⟩ t).drew.heap.size (some ⟨gs, 0, none⟩) vals ∧
    Below w.heap.size w (((w6.setCell ⟨w.heap.size + 1, 0, none⟩ x).setCell ⟨w.heap.size + 1, 1, none⟩ y).setCell ⟨w.heap.size + 1, 2, none⟩ t).drew := by
  have hs := h.hs
  have le : w.heap.size ≤ w.heap.size + 1 := Nat.le_succ _
  refine ⟨SLs.of_row (fun j hj => hop3 (by show w.heap.size + 1 ≠ gs; omega) (h.row j hj)) ?_, (((h.bel.setCell (p := ⟨w.heap.size + 1, 0, none⟩) le x).setCell (p := ⟨w.heap.size + 1, 1, none⟩) le y).setCell (p := ⟨w.heap.size + 1, 2, none⟩) le t).drew⟩
  have := h.lt
  simpa [World.drew] using this
theorem draw_value (vals : List ByteArray) (A : Option Addr) (n c : Nat) (seed : ByteArray) (k v m : Nat) (w : World) (hn : vals.length = n) (hm : n ≤ 1000) (h : SLs w w.heap.size A vals) (hk : k < n)
    (hv : vals.getD k ByteArray.empty = B v) (hv1 : v < lim) (hvm : v < m) (hm1 : m < 18446744073709551616) (hs : seed.size ≤ 100000) :
    Calls Tryd.prog 29 #[.agg #[.slice A n c, .string seed, .int .i64 k], .string (B m)] w fun e w' => (∃ g, e = .returned (.tuple #[.string (B v), .agg #[.slice (some ⟨g, 0, none⟩) n n, .string seed, .int .i64 ((k : Int) + 1)], .int .i64 0]) ∧ SLs w' w'.heap.size (some ⟨g, 0, none⟩) vals) ∧ Below w.heap.size w w' := by
  obtain ⟨ad, rfl, hadb, hall⟩ := h (by intro e; rw [e] at hn; simp at hn; omega)
  have hc0 := hall k (by omega)
  rw [hv] at hc0
  have hc1 : ((w.alloc (.cells #[.slice (some ad) n c, .string seed, .int .i64 k] 24)).alloc (.cells #[.slice none 0 0, .string ⟨#[]⟩, .int .i64 0] 24)).cell? (ad.add k) = some (.string (B v)) := by
    rw [World.cell?_alloc_lt _ _ _ (by rw [block_of_add]; simp; omega), World.cell?_alloc_lt _ _ _ (by rw [block_of_add]; exact hadb)]
    exact hc0
  have hzw : IntKind.i64.wrap ((k : Int) + 1) = (k : Int) + 1 := by rw [IntKind.wrap_i64]; omega
  have i0 : (0 : Int) ≤ (k : Int) := by omega
  have i1 : (k : Int) < (n : Int) := by omega
  have i2 : ¬ ((k : Int) = 2147483647) := by omega
  have i3 : ((k : Int) == 2147483647) = false := by rw [beq_eq_false_iff_ne]; exact i2
  have hmk := make_strs n (by omega)
  have KC := Lib.hid (fun w => natural_Cmp (B v) (B m) w)
  rw [natCmp_BB hv1 (Nat.lt_trans hm1 (by decide)), show cmpN v m = -1 from by unfold cmpN; rw [if_pos hvm]] at KC
  have HV1 := Lib.hid hv1
  have HALL := Lib.hid hall
  have HN := Lib.hid hn
  have HV := Lib.hid hv
  clear hall hn hc0 hv
  go_enter Tryd.func29, Tryd.ntmps29
  go_wp2_with (first | (go_at_call 43; (with_reducible refine (KC.out _).mono ?_); rintro e w1 ⟨rfl, rfl⟩))
  have d0 : ((w.alloc (.cells #[.slice (some ad) n c, .string seed, .int .i64 k] 24)).alloc (.cells #[.slice none 0 0, .string ⟨#[]⟩, .int .i64 0] 24)).cell? ⟨w.heap.size, 0, none⟩ = some (.slice (some ad) n c) := by simp [go_sem]
  have d1 : ((w.alloc (.cells #[.slice (some ad) n c, .string seed, .int .i64 k] 24)).alloc (.cells #[.slice none 0 0, .string ⟨#[]⟩, .int .i64 0] 24)).cell? ⟨w.heap.size, 1, none⟩ = some (.string seed) := by simp [go_sem]
  have d2 : ((w.alloc (.cells #[.slice (some ad) n c, .string seed, .int .i64 k] 24)).alloc (.cells #[.slice none 0 0, .string ⟨#[]⟩, .int .i64 0] 24)).cell? ⟨w.heap.size, 2, none⟩ = some (.int .i64 k) := by simp [go_sem]
  go_region_held3 (fun w' => w'.cell? ⟨w.heap.size, 0, none⟩ = some (.slice (some ad) n c) ∧ w'.cell? ⟨w.heap.size, 1, none⟩ = some (.string seed) ∧ w'.cell? ⟨w.heap.size, 2, none⟩ = some (.int .i64 k)) (first | go_keep) (first | fail)
  all_goals
    first
      | (refine world_on (fun wx => AtD w wx (w.heap.size + 1 + 1) (w.heap.size + 1 + 1 + 1) (some ad) n c seed k (List.replicate n (.string ByteArray.empty))) (atD_A w (some ad) n c seed k hzw) ?_)
      | (refine world_on (fun wx => AtD w wx (w.heap.size + 1 + 1 + 1) (w.heap.size + 1 + 1) (some ad) n c seed k (List.replicate n (.string ByteArray.empty))) (atD_B w (some ad) n c seed k hzw) ?_)
    intro wx hx
    have x0 := hx.t0
    have x2 := hx.t2
    obtain ⟨y0, y1, y2⟩ := hx.b0
    have HX := Lib.hid hx
    clear hx
    go_wp2_with (first
    | (refine wpList_copy_own rfl (.tmp 56) (.tmp 58) _ _ rfl 28 Tryd.underlying22 rfl _ 0 n n ad n c rfl rfl _ 28 HX.out.s (vals.map Value.string) (by simp [HN.out]) (src_cells HX.out.bel hadb HALL.out) (by simp [HN.out]) (str_ones vals) ?_
       rw [copy_row n _ _ (by rw [List.length_map]; exact HN.out)]
       have hx6 := HX.out.copied (ms := vals.map Value.string)
       generalize hw6 : wx.setRow _ (vals.map Value.string).toArray = w6 at hx6 ⊢
       have z0 := hx6.t0
       have z2 := hx6.t2
       obtain ⟨v0, v1, v2⟩ := hx6.b0
       obtain ⟨r0, r1, r2, rf⟩ := hx6.r0
       have rf0 := rf 0
       have rf1 := rf 1
       have rf2 := rf 2
       have hsrc := src_cells hx6.bel hadb HALL.out k (.string (B v)) (by rw [List.getElem?_map, List.getElem?_eq_getElem (by rw [HN.out]; exact hk), ← sgetD_lt (by rw [HN.out]; exact hk), HV.out]; rfl)
       have H6 := Lib.hid hx6
       clear hx6 hw6 rf))
    have hpb : (ad.add k).block < w.heap.size := by rw [block_of_add]; exact hadb
    first
      | (go_region_held3 (fun w' => w'.cell? ⟨w.heap.size, 0, none⟩ = some (.slice (some ad) n c) ∧ w'.cell? ⟨w.heap.size, 2, none⟩ = some (.int .i64 k) ∧ w'.cell? (ad.add k) = some (.string (B v)) ∧ w'.cell? ⟨w.heap.size + 1 + 1, 0, none⟩ = some (.slice (some ⟨w.heap.size + 1 + 1 + 1, 0, none⟩) n n) ∧ w'.cell? ⟨w.heap.size + 1 + 1, 1, none⟩ = some (.string seed) ∧ w'.cell? ⟨w.heap.size + 1 + 1, 2, none⟩ = some (.int .i64 ((k : Int) + 1)) ∧ (∃ u, w'.cell? ⟨w.heap.size + 1, 0, none⟩ = some u) ∧ (∃ u, w'.cell? ⟨w.heap.size + 1, 1, none⟩ = some u) ∧ (∃ u, w'.cell? ⟨w.heap.size + 1, 2, none⟩ = some u) ∧ w'.frozen? ⟨w.heap.size + 1, 0, none⟩ = false ∧ w'.frozen? ⟨w.heap.size + 1, 1, none⟩ = false ∧ w'.frozen? ⟨w.heap.size + 1, 2, none⟩ = false) (first | (with_reducible exact H6.out.stored (p := ad.add k) hpb hsrc) | go_keep) (first | fail))
      | (go_region_held3 (fun w' => w'.cell? ⟨w.heap.size, 0, none⟩ = some (.slice (some ad) n c) ∧ w'.cell? ⟨w.heap.size, 2, none⟩ = some (.int .i64 k) ∧ w'.cell? (ad.add k) = some (.string (B v)) ∧ w'.cell? ⟨w.heap.size + 1 + 1 + 1, 0, none⟩ = some (.slice (some ⟨w.heap.size + 1 + 1, 0, none⟩) n n) ∧ w'.cell? ⟨w.heap.size + 1 + 1 + 1, 1, none⟩ = some (.string seed) ∧ w'.cell? ⟨w.heap.size + 1 + 1 + 1, 2, none⟩ = some (.int .i64 ((k : Int) + 1)) ∧ (∃ u, w'.cell? ⟨w.heap.size + 1, 0, none⟩ = some u) ∧ (∃ u, w'.cell? ⟨w.heap.size + 1, 1, none⟩ = some u) ∧ (∃ u, w'.cell? ⟨w.heap.size + 1, 2, none⟩ = some u) ∧ w'.frozen? ⟨w.heap.size + 1, 0, none⟩ = false ∧ w'.frozen? ⟨w.heap.size + 1, 1, none⟩ = false ∧ w'.frozen? ⟨w.heap.size + 1, 2, none⟩ = false) (first | (with_reducible exact H6.out.stored (p := ad.add k) hpb hsrc) | go_keep) (first | fail))
    go_wp2_with fail
    first
      | exact bodyPost_ret (v := .tuple #[.string (B v), .agg #[.slice (some ⟨w.heap.size + 1 + 1 + 1, 0, none⟩) n n, .string seed, .int .i64 ((k : Int) + 1)], .int .i64 0]) (by simp [results, Tryd.results29, go_sem, r0, r1, r2]) rfl ⟨⟨_, rfl, H6.out.res.1⟩, H6.out.res.2⟩
      | exact bodyPost_ret (v := .tuple #[.string (B v), .agg #[.slice (some ⟨w.heap.size + 1 + 1, 0, none⟩) n n, .string seed, .int .i64 ((k : Int) + 1)], .int .i64 0]) (by simp [results, Tryd.results29, go_sem, r0, r1, r2]) rfl ⟨⟨_, rfl, H6.out.res.1⟩, H6.out.res.2⟩

end Go.Proofs.YtfggpgiinihflaaDoor
