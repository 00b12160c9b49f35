/- Words for memory: rows of strings, slices of strings that came in or are the call's own. -/
import Derived.Test.YtfggpgiinihflaaDoorRd
namespace Go.Proofs.YtfggpgiinihflaaDoor
open Go.RowKit
set_option maxRecDepth 100000
set_option linter.unusedVariables false

theorem nat_info : (Tryd.prog.info? 28).map (fun i => (i.zero, i.size, i.bytes)) = some (some (.string ByteArray.empty), 1, 16) := by kernel_rfl
/-- The strings that lie in a block from its beginning on. -/
def SRow (w : World) (g : Nat) (ls : List ByteArray) : Prop := ∀ j, j < ls.length → w.cell? ⟨g, j, none⟩ = some (.string (ls.getD j ByteArray.empty))
theorem sgetD_lt {L : List ByteArray} {k : Nat} (h : k < L.length) : L.getD k ByteArray.empty = L[k] := by simp [List.getD, h]
theorem SRow.new (w : World) (T : TypeId) (ls : List ByteArray) : SRow (w.alloc (.cells (ls.map Value.string).toArray T)) w.heap.size ls := by
  intro j hj
  have h := heap_alloc_new w (.cells (ls.map Value.string).toArray T)
  simp only [World.cell?, h]
  simp [List.getD, hj]
theorem SRow.alloc {w : World} {g : Nat} {ls : List ByteArray} (h : SRow w g ls) (hg : g < w.heap.size) (o : Obj) : SRow (w.alloc o) g ls :=
  fun j hj => (((Below.refl w.heap.size w).alloc (Nat.le_refl _) o).cell (p := ⟨g, j, none⟩) hg).trans (h j hj)
/-- A slice of strings: it lies in a block below b (or is empty) and reads as the list. -/
def SLs (w : World) (b : Nat) (A : Option Addr) (ls : List ByteArray) : Prop :=
  ls ≠ [] → ∃ ad, A = some ad ∧ ad.block < b ∧ ∀ j, j < ls.length → w.cell? (ad.add j) = some (.string (ls.getD j ByteArray.empty))
section
variable {w w' : World} {b b' : Nat} {A : Option Addr} {ls : List ByteArray}
theorem SLs.keep (h : SLs w b A ls) (hk : ∀ p : Addr, p.block < b → w'.cell? p = w.cell? p) : SLs w' b A ls := fun hne => by
  obtain ⟨ad, e, hb, hc⟩ := h hne
  refine ⟨ad, e, hb, fun j hj => (hk _ ?_).trans (hc j hj)⟩
  unfold Addr.add
  split <;> exact hb
theorem SLs.more (h : SLs w b A ls) (hb : b ≤ b') : SLs w b' A ls := fun hne => by
  obtain ⟨ad, e, h1, hc⟩ := h hne
  exact ⟨ad, e, Nat.lt_of_lt_of_le h1 hb, hc⟩
theorem SLs.below (h : SLs w b A ls) (hb : Below b w w') : SLs w' b A ls := h.keep fun _ hp => hb.cell hp
theorem SLs.next (h : SLs w b A ls) {B : Nat} (hB : b ≤ B) (hb : Below B w w') : SLs w' b A ls := h.keep fun _ hp => hb.cell (Nat.lt_of_lt_of_le hp hB)
theorem SLs.at_ (h : SLs w b A ls) {k : Nat} (hk : k < ls.length) : ∃ ad, A = some ad ∧ w.cell? (ad.add k) = some (.string (ls.getD k ByteArray.empty)) := by
  obtain ⟨ad, e, _, hc⟩ := h (by intro e; rw [e] at hk; simp at hk)
  exact ⟨ad, e, hc k hk⟩
theorem SLs.of_row {g : Nat} (h : SRow w g ls) (hg : g < b) : SLs w b (some ⟨g, 0, none⟩) ls := fun _ => by
  refine ⟨_, rfl, hg, fun j hj => ?_⟩
  have := h j hj
  unfold Addr.add
  split
  · rename_i h0; subst h0; exact this
  · simpa using this
theorem SLs.nil_ : SLs w b none [] := fun h => absurd rfl h
end

/-! ### strings -/
/-- A row of strings of the call's own. -/
def OwnS (w : World) (base : Nat) (v : Value) (n : Nat) (ls : List ByteArray) : Prop := ls.length = n ∧ w.ownsRow base 28 1 v n (ls.map Value.string)
theorem SLs.reads {w : World} {b : Nat} {A : Option Addr} {ls : List ByteArray} (h : SLs w b A ls) {n : Nat} (hn : ls.length = n) : Reads w b 1 A n (ls.map Value.string) := by
  refine ⟨by simp [hn], fun h0 => ?_⟩
  obtain ⟨ad, e, hb, hc⟩ := h (by intro e; rw [e] at hn; simp at hn; omega)
  refine ⟨ad, e, hb, fun j u hu => ?_⟩
  rw [List.getElem?_map, Option.map_eq_some_iff] at hu
  obtain ⟨x, hx, rfl⟩ := hu
  have hj := (List.getElem?_eq_some_iff.1 hx).1
  rw [hc j hj, sgetD_lt hj, (List.getElem?_eq_some_iff.1 hx).2]
theorem OwnS.nil_ (w : World) (base : Nat) : OwnS w base (.slice none 0 0) 0 [] := ⟨rfl, World.ownsRow_nil w base _ 1⟩
theorem OwnS.lit (w : World) (base : Nat) (ls : List ByteArray) (n : Nat) (hb : base ≤ w.heap.size) (hn : ls.length = n) (hm : n ≤ 1000) : OwnS (w.alloc (.cells (ls.map Value.string).toArray 28)) base (.slice (some ⟨w.heap.size, 0, none⟩) n n) n ls := by
  refine ⟨hn, ?_⟩
  have := World.ownsRow_lit (e := 28) (size := 1) w (ls.map Value.string).toArray n hb (by unfold maxLen; omega) (by simp [hn])
  simpa using this
theorem OwnS.form {w : World} {base : Nat} {v : Value} {n : Nat} {ls : List ByteArray} (h : OwnS w base v n ls) (hz : base ≤ w.heap.size) : ∃ A c, v = .slice A n c ∧ SLs w w.heap.size A ls := by
  obtain ⟨hn, hr⟩ := h
  rcases hr.2 with ⟨rfl, rfl⟩ | ⟨g, cap, cur, rfl, hb, hg, _⟩
  · exact ⟨none, 0, rfl, by rw [List.eq_nil_of_length_eq_zero hn]; exact SLs.nil_⟩
  · refine ⟨some ⟨g, 0, none⟩, cap, rfl, fun _ => ⟨_, rfl, (Array.getElem?_eq_some_iff.1 hg).1, fun j hj => ?_⟩⟩
    refine hr.cells (g := g) rfl j _ ?_
    rw [List.getElem?_map, sgetD_lt hj, List.getElem?_eq_getElem hj]
    rfl
theorem OwnS.kept {w w' : World} {base : Nat} {v : Value} {n B : Nat} {ls : List ByteArray} (h : OwnS w base v n ls) (hb : Below w.heap.size w w') : OwnS w' base v n ls := by
  refine ⟨h.1, h.2.1, ?_⟩
  rcases h.2.2 with hn | ⟨g, cap, cur, rfl, h1, hg, rest⟩
  · exact .inl hn
  · exact .inr ⟨g, cap, cur, rfl, h1, (hb.block g (Array.getElem?_eq_some_iff.1 hg).1).trans hg, rest⟩

/-- A row that was just made. -/
theorem SLs.new (w : World) (T : TypeId) (ls : List ByteArray) (b : Nat) (hb : w.heap.size < b) : SLs (w.alloc (.cells (ls.map Value.string).toArray T)) b (some ⟨w.heap.size, 0, none⟩) ls := SLs.of_row (SRow.new w T ls) hb
theorem SLs.to {W w' : World} {A : Option Addr} {ls : List ByteArray} (h : SLs W W.heap.size A ls) (hb : Below W.heap.size W w') : SLs w' w'.heap.size A ls := (h.below hb).more hb.size
theorem SLs.drew {W : World} {b : Nat} {A : Option Addr} {ls : List ByteArray} (h : SLs W b A ls) : SLs W.drew b A ls := h

end Go.Proofs.YtfggpgiinihflaaDoor
