/- The examples of the chapter on accumulators: the key, awake. -/
import Derived.Test.YtlppcnjaacbhpaaGreatDoorU9
namespace Go.Proofs.YtlppcnjaacbhpaaGreatDoor
open Go.RowKit
set_option maxRecDepth 100000
set_option linter.unusedVariables false
set_option maxHeartbeats 4000000

/-- A block that still reads as it was made. -/
theorem old_cell {w1 w' : World} {g : Nat} {cs : Array Value} {T : TypeId} (hg : g < w1.heap.size) (h0 : w1.heap[g]? = some (.cells cs T (0, 0))) (hb : Below w1.heap.size w1 w') (k : Nat) :
    w'.cell? ⟨g, k, none⟩ = cs[k]? ∧ w'.frozen? ⟨g, k, none⟩ = false := by
  have h1 : w'.heap[g]? = some (.cells cs T (0, 0)) := (hb.block g hg).trans h0
  exact ⟨cell_of_row w' g k cs T (0, 0) h1, by simp [World.frozen?, h1]⟩
theorem two_boxes (w : World) (o1 o2 : Obj) : ((w.alloc o1).alloc o2).heap[w.heap.size]? = some o1 ∧ ((w.alloc o1).alloc o2).heap[w.heap.size + 1]? = some o2 :=
  ⟨(Below.heap_alloc _ o2 _ (by simp)).trans (heap_alloc_new w _), by have := heap_alloc_new (w.alloc o1) o2; rwa [World.size_alloc] at this⟩
theorem law35_key (w : World) :
    Calls Tryz.prog 22 #[] w fun e w' => e = .returned (.tuple #[.agg #[.string ⟨#[]⟩, .string (B 77), .string ⟨#[]⟩, .string ⟨#[]⟩, .string ⟨#[]⟩, .slice none 0 0, .string (B 4), .string ⟨#[]⟩], .agg #[.string (B 7), .string (B 11)]]) ∧ Below w.heap.size w w' := by
  go_enter Tryz.func22, Tryz.ntmps22
  go_wp2_with (first | (go_at_call 19; (with_reducible refine (law35_num 77 77 _ rfl (by decide)).mono ?_); rintro e w1 ⟨rfl, hb1⟩) | (go_at_call 19; (with_reducible refine (law35_num 4 4 _ rfl (by decide)).mono ?_); rintro e w2 ⟨rfl, hb2⟩) | (go_at_call 19; (with_reducible refine (law35_num 7 7 _ rfl (by decide)).mono ?_); rintro e w3 ⟨rfl, hb3⟩))
  refine (law35_num 11 11 _ rfl (by decide)).mono ?_
  rintro e w4 ⟨rfl, hb4⟩
  have hb14 := below2 (below2 (below2 hb1 hb2) hb3) hb4
  have hA := fun k => old_cell (g := w.heap.size) (cs := #[.string ⟨#[]⟩, .string ⟨#[]⟩, .string ⟨#[]⟩, .string ⟨#[]⟩, .string ⟨#[]⟩, .slice none 0 0, .string ⟨#[]⟩, .string ⟨#[]⟩]) (T := 27) (by simp; omega) (two_boxes w _ _).1 hb14 k
  have hB := fun k => old_cell (g := w.heap.size + 1) (cs := #[.string ⟨#[]⟩, .string ⟨#[]⟩]) (T := 47) (by simp) (two_boxes w _ _).2 hb14 k
  obtain ⟨a0, f0⟩ := hA 0
  obtain ⟨a1, f1⟩ := hA 1
  obtain ⟨a2, f2⟩ := hA 2
  obtain ⟨a3, f3⟩ := hA 3
  obtain ⟨a4, f4⟩ := hA 4
  obtain ⟨a5, f5⟩ := hA 5
  obtain ⟨a6, f6⟩ := hA 6
  obtain ⟨a7, f7⟩ := hA 7
  obtain ⟨b0, g0⟩ := hB 0
  obtain ⟨b1, g1⟩ := hB 1
  simp only [List.getElem?_toArray, List.getElem?_cons_zero, List.getElem?_cons_succ] at a0 a1 a2 a3 a4 a5 a6 a7 b0 b1
  have HB14 := Lib.hid hb14
  clear hA hB hb14 hb1 hb2 hb3 hb4
  go_wp2_with fail
  have F0 : Below w.heap.size w w4 := ((((Below.refl _ _).alloc (Nat.le_refl _) _).alloc (by simp) _).trans (HB14.out.mono (by simp; omega)))
  have k1 : w.heap.size ≤ w.heap.size := Nat.le_refl _
  have k2 : w.heap.size ≤ w.heap.size + 1 := Nat.le_succ _
  exact bodyPost_ret (v := .tuple #[.agg #[.string ⟨#[]⟩, .string (B 77), .string ⟨#[]⟩, .string ⟨#[]⟩, .string ⟨#[]⟩, .slice none 0 0, .string (B 4), .string ⟨#[]⟩], .agg #[.string (B 7), .string (B 11)]])
    (by simp [results, Tryz.results22, go_sem, a0, a1, a2, a3, a4, a5, a6, a7, b0, b1]) rfl ⟨rfl, (((((((((F0.setCell k1 _).setCell k1 _).setCell k1 _).setCell k1 _).setCell k1 _).setCell k1 _).setCell k1 _).setCell k1 _).setCell k2 _).setCell k2 _⟩

end Go.Proofs.YtlppcnjaacbhpaaGreatDoor
