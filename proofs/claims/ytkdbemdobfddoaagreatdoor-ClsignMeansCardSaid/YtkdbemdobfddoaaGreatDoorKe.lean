/- Rows of integers (two cells each): slices of api.Int. -/
import Derived.Test.YtkdbemdobfddoaaGreatDoorKa
import Derived.Test.YtkdbemdobfddoaaGreatDoorII
namespace Go.Proofs.YtkdbemdobfddoaaGreatDoor
open Go.RowKit
set_option maxRecDepth 100000
set_option linter.unusedVariables false
set_option maxHeartbeats 4000000

/-- The cells of integers, one behind the other. -/
def flatZ (es : List (Bool × ByteArray)) : List Value := es.flatMap fun e => [.bool e.1, .string e.2]
theorem flatZ_nil : flatZ [] = [] := rfl
theorem flatZ_cons (e : Bool × ByteArray) (es : List (Bool × ByteArray)) : flatZ (e :: es) = .bool e.1 :: .string e.2 :: flatZ es := rfl
theorem flatZ_append (a b : List (Bool × ByteArray)) : flatZ (a ++ b) = flatZ a ++ flatZ b := by simp [flatZ]
theorem flatZ_length (es : List (Bool × ByteArray)) : (flatZ es).length = es.length * 2 := by
  induction es with
  | nil => rfl
  | cons e es ih => rw [flatZ_cons, List.length_cons, List.length_cons, ih, List.length_cons]; omega
def z0 : Bool × ByteArray := (false, ⟨#[]⟩)
theorem flatZ_get (es : List (Bool × ByteArray)) (k : Nat) (hk : k < es.length) : (flatZ es)[k * 2]? = some (.bool (es.getD k z0).1) ∧ (flatZ es)[k * 2 + 1]? = some (.string (es.getD k z0).2) := by
  induction es generalizing k with
  | nil => cases hk
  | cons e es ih =>
    cases k with
    | zero => exact ⟨rfl, rfl⟩
    | succ k =>
      have := ih k (by simpa using hk)
      rw [flatZ_cons, show (k + 1) * 2 = k * 2 + 1 + 1 by omega]
      simpa using this
theorem flatZ_one (es : List (Bool × ByteArray)) : ∀ v ∈ flatZ es, v.oneCell' = true := by
  intro v hv
  unfold flatZ at hv
  rw [List.mem_flatMap] at hv
  obtain ⟨e, _, h⟩ := hv
  simp only [List.mem_cons, List.not_mem_nil, or_false] at h
  rcases h with rfl | rfl <;> rfl
/-- A slice of integers: it lies at the head of a block below b (or is empty) and reads as the list. -/
def ZLs (w : World) (b : Nat) (A : Option Addr) (es : List (Bool × ByteArray)) : Prop :=
  es ≠ [] → ∃ g, A = some ⟨g, 0, none⟩ ∧ g < b ∧ ∀ j, j < es.length → w.cell? ⟨g, j * 2, none⟩ = some (.bool (es.getD j z0).1) ∧ w.cell? ⟨g, j * 2 + 1, none⟩ = some (.string (es.getD j z0).2)
section
variable {w w' : World} {b b' : Nat} {A : Option Addr} {es : List (Bool × ByteArray)}
theorem ZLs.below (h : ZLs w b A es) (hb : Below b w w') : ZLs w' b A es := fun hne => by
  obtain ⟨g, e, hg, hc⟩ := h hne
  exact ⟨g, e, hg, fun j hj => ⟨(hb.cell (p := ⟨g, j * 2, none⟩) hg).trans (hc j hj).1, (hb.cell (p := ⟨g, j * 2 + 1, none⟩) hg).trans (hc j hj).2⟩⟩
theorem ZLs.more (h : ZLs w b A es) (hb : b ≤ b') : ZLs w b' A es := fun hne => by
  obtain ⟨g, e, h1, hc⟩ := h hne
  exact ⟨g, e, Nat.lt_of_lt_of_le h1 hb, hc⟩
theorem ZLs.to (h : ZLs w w.heap.size A es) (hb : Below w.heap.size w w') : ZLs w' w'.heap.size A es := (h.below hb).more hb.size
theorem ZLs.at_ (h : ZLs w b A es) {k : Nat} (hk : k < es.length) : ∃ g, A = some ⟨g, 0, none⟩ ∧ g < b ∧ w.cell? ⟨g, k * 2, none⟩ = some (.bool (es.getD k z0).1) ∧ w.cell? ⟨g, k * 2 + 1, none⟩ = some (.string (es.getD k z0).2) := by
  obtain ⟨g, e, hg, hc⟩ := h (by intro e; rw [e] at hk; simp at hk)
  exact ⟨g, e, hg, (hc k hk).1, (hc k hk).2⟩
theorem ZLs.nil_ : ZLs w b none [] := fun h => absurd rfl h
theorem ZLs.drew (h : ZLs w b A es) : ZLs w.drew b A es := h
theorem ZLs.lit (w : World) (T : TypeId) (es : List (Bool × ByteArray)) (b : Nat) (hb : w.heap.size < b) : ZLs (w.alloc (.cells (flatZ es).toArray T)) b (some ⟨w.heap.size, 0, none⟩) es := fun _ => by
  refine ⟨w.heap.size, rfl, hb, fun j hj => ?_⟩
  have h := heap_alloc_new w (.cells (flatZ es).toArray T)
  have hg := flatZ_get es j hj
  simp only [World.cell?, h]
  simpa using hg
/-- A row of integers of the call's own. -/
def OwnZ (w : World) (base : Nat) (v : Value) (n : Nat) (es : List (Bool × ByteArray)) : Prop := es.length = n ∧ w.ownsRow base 73 2 v n (flatZ es)
theorem OwnZ.nil_ (w : World) (base : Nat) : OwnZ w base (.slice none 0 0) 0 [] := ⟨rfl, World.ownsRow_nil w base _ 2⟩
theorem OwnZ.form {base n : Nat} {v : Value} (h : OwnZ w base v n es) : ∃ A c, v = .slice A n c ∧ ZLs w w.heap.size A es := by
  obtain ⟨hn, hr⟩ := h
  rcases hr.2 with ⟨rfl, h0⟩ | ⟨g, cap, cur, rfl, hb, hg, _⟩
  · have : es = [] := List.eq_nil_of_length_eq_zero (by omega)
    subst this
    exact ⟨none, 0, by rw [h0], ZLs.nil_⟩
  · refine ⟨some ⟨g, 0, none⟩, cap, rfl, fun _ => ⟨g, rfl, (Array.getElem?_eq_some_iff.1 hg).1, fun j hj => ?_⟩⟩
    have hf := flatZ_get es j hj
    have c1 := hr.cells (g := g) rfl _ _ hf.1
    have c2 := hr.cells (g := g) rfl _ _ hf.2
    rw [addr_add, Nat.zero_add] at c1 c2
    exact ⟨c1, c2⟩
theorem OwnZ.kept {base n : Nat} {v : Value} (h : OwnZ w base v n es) (hb : Below w.heap.size w w') : OwnZ w' base v n es := by
  refine ⟨h.1, h.2.1, ?_⟩
  rcases h.2.2 with hn | ⟨g, cap, cur, rfl, h1, hg, rest⟩
  · exact .inl hn
  · exact .inr ⟨g, cap, cur, rfl, h1, (hb.block g (Array.getElem?_eq_some_iff.1 hg).1).trans hg, rest⟩
theorem OwnZ.blockOf {base n : Nat} {v : Value} (h : OwnZ w base v n es) : ∀ k, v.ownBlock = some k → base ≤ k ∧ k < w.heap.size := by
  intro k hk
  rcases h.2.2 with ⟨rfl, _⟩ | ⟨g, cap, cur, rfl, h1, hg, rest⟩
  · cases hk
  · cases hk
    exact ⟨h1, (Array.getElem?_eq_some_iff.1 hg).1⟩
end
theorem api_intE : ∃ i : TypeInfo, Tryz.prog.info? 73 = some i ∧ i.zero = some (.agg #[.bool false, .string ByteArray.empty]) ∧ i.size = 2 ∧ i.bytes = 24 := by
  have h : (Tryz.prog.info? 73).map (fun i => (i.zero, i.size, i.bytes)) = some (some (.agg #[.bool false, .string ByteArray.empty]), 2, 24) := by kernel_rfl
  obtain ⟨i, h1, h2, h3, h4⟩ := info_parts h
  exact ⟨i, h1, h2, h3, h4⟩
/-- append of one new integer onto a row of the call's own. -/
theorem wpList_append_Z {w : World} {ops : Array Oper} {rest : List Oper} {o : Oper} {a : Act} {Q : Exit → Act → World → Prop} (hgd : o.guard = none) (s x : Operand)
    (ho : o.op = .call { callee := .builtin .append, args := #[s, x], argTypes := #[75, 75] })
    (base : Nat) (v : Value) (n : Nat) (es : List (Bool × ByteArray)) (hs : a.eval s = v) (hown : OwnZ w base v n es)
    (g c : Nat) (e : Bool × ByteArray) (hx : a.eval x = .slice (some ⟨g, 0, none⟩) 1 c) (h0 : w.cell? ⟨g, 0, none⟩ = some (.bool e.1)) (h1 : w.cell? ⟨g, 1, none⟩ = some (.string e.2)) (hg : g < w.heap.size) (hsz : n ≤ 100000) (hbase : base ≤ w.heap.size)
    (h : ∀ v' w', OwnZ w' base v' (n + 1) (es ++ [e]) → Below base w w' → wpList Tryz.prog ops Q rest (a.put o.dst v') w') : wpList Tryz.prog ops Q (o :: rest) a w := by
  obtain ⟨i, hi, hz, hs1, hb1⟩ := api_intE
  have hr : Reads w w.heap.size 2 (some ⟨g, 0, none⟩) 1 (flatZ [e]) := ⟨rfl, fun _ => ⟨_, rfl, hg, fun j u hu => by
    match j, hu with
    | 0, hu => cases hu; exact h0
    | 1, hu => cases hu; exact h1⟩⟩
  refine wpList_append_any w hgd s x 75 ho base 73 i (.agg #[.bool false, .string ByteArray.empty]) 2 24 Tryz.underlying75 hi hz hs1 hb1 rfl (by decide) v n (flatZ es) hs hown.2 w.heap.size (some ⟨g, 0, none⟩) 1 c (flatZ [e]) hx hr (flatZ_one [e]) (by unfold maxLen; omega) (by omega) hbase ?_
  intro v' w' h2 h3 _
  refine h v' w' ⟨by rw [List.length_append, hown.1]; rfl, by rw [flatZ_append]; exact h2⟩ (below_grown h3 hbase fun k hk => (hown.blockOf k hk).1)

end Go.Proofs.YtkdbemdobfddoaaGreatDoor
