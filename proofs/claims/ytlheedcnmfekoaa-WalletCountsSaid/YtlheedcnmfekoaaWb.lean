/- Encoding: lists of items in memory; append of an item onto a row of the call's own. -/
import Derived.Test.YtlheedcnmfekoaaWa
namespace Go.Proofs.Ytlheedcnmfekoaa
open Go.RowKit
set_option maxRecDepth 100000
set_option linter.unusedVariables false
set_option maxHeartbeats 1000000

theorem two_boxes (w : World) (o1 o2 : Obj) : ((w.alloc o1).alloc o2).heap[w.heap.size]? = some o1 ∧ ((w.alloc o1).alloc o2).heap[w.heap.size + 1]? = some o2 :=
  ⟨(Below.heap_alloc _ o2 _ (by simp)).trans (heap_alloc_new w _), by have := heap_alloc_new (w.alloc o1) o2; rwa [World.size_alloc] at this⟩
/-- Some cells in a row, in a block that S allows. -/
def RowC (w : World) (S : Nat → Prop) (A : Option Addr) (n : Nat) (L : List Value) : Prop :=
  0 < n → ∃ g off, A = some ⟨g, off, none⟩ ∧ S g ∧ ∀ j u, L[j]? = some u → w.cell? ⟨g, off + j, none⟩ = some u
/-- The cells of a list of items. -/
def RelI (w : World) (S : Nat → Prop) : Its → List Value → Prop
  | .nil, L => L = []
  | .cons k n t l r, L => ∃ A c L' R, L = .int .i64 k :: .string n :: .string t :: .slice A l.len c :: R ∧ RowC w S A l.len L' ∧ RelI w S l L' ∧ RelI w S r R
/-- A slice that holds a list of items. -/
def SlI (w : World) (S : Nat → Prop) (A : Option Addr) (l : Its) : Prop := ∃ L, RowC w S A l.len L ∧ RelI w S l L
section
variable {w w' : World} {S S' : Nat → Prop} {A : Option Addr} {n : Nat} {L : List Value} {l : Its}
theorem RowC.keep (h : RowC w S A n L) (hk : ∀ p : Addr, S p.block → w'.cell? p = w.cell? p) : RowC w' S A n L := fun hn => by
  obtain ⟨g, off, e, hs, hc⟩ := h hn
  exact ⟨g, off, e, hs, fun j u hu => (hk _ hs).trans (hc j u hu)⟩
theorem RowC.mono (h : RowC w S A n L) (hm : ∀ g, S g → S' g) : RowC w S' A n L := fun hn => by
  obtain ⟨g, off, e, hs, hc⟩ := h hn
  exact ⟨g, off, e, hm g hs, hc⟩
theorem RelI.keep (h : RelI w S l L) (hk : ∀ p : Addr, S p.block → w'.cell? p = w.cell? p) : RelI w' S l L := by
  induction l generalizing L with
  | nil => exact h
  | cons k n t l r ihl ihr =>
    obtain ⟨A, c, L', R, e, h1, h2, h3⟩ := h
    exact ⟨A, c, L', R, e, h1.keep hk, ihl h2, ihr h3⟩
theorem RelI.mono (h : RelI w S l L) (hm : ∀ g, S g → S' g) : RelI w S' l L := by
  induction l generalizing L with
  | nil => exact h
  | cons k n t l r ihl ihr =>
    obtain ⟨A, c, L', R, e, h1, h2, h3⟩ := h
    exact ⟨A, c, L', R, e, h1.mono hm, ihl h2, ihr h3⟩
theorem RelI.length (h : RelI w S l L) : L.length = l.len * 4 := by
  induction l generalizing L with
  | nil => cases h; rfl
  | cons k n t l r ihl ihr =>
    obtain ⟨A, c, L', R, e, h1, h2, h3⟩ := h
    rw [e]
    simp only [List.length_cons, ihr h3, Its.len]
    omega
theorem RelI.one (h : RelI w S l L) : ∀ v ∈ L, v.oneCell' = true := by
  induction l generalizing L with
  | nil => cases h; simp
  | cons k n t l r ihl ihr =>
    obtain ⟨A, c, L', R, e, h1, h2, h3⟩ := h
    rw [e]
    intro v hv
    simp only [List.mem_cons] at hv
    rcases hv with rfl | rfl | rfl | rfl | hv
    · rfl
    · rfl
    · rfl
    · rfl
    · exact ihr h3 v hv
theorem RelI.app {a b : Its} {La Lb : List Value} (h1 : RelI w S a La) (h2 : RelI w S b Lb) : RelI w S (a.app b) (La ++ Lb) := by
  induction a generalizing La with
  | nil => cases h1; exact h2
  | cons k n t l r ihl ihr =>
    obtain ⟨A, c, L', R, e, g1, g2, g3⟩ := h1
    exact ⟨A, c, L', R ++ Lb, by rw [e]; rfl, g1, g2, ihr g3⟩
theorem RelI.get (h : RelI w S l L) {i : Nat} {y : Its.One} (hy : l.get? i = some y) :
    ∃ A c, L[i * 4]? = some (.int .i64 y.1) ∧ L[i * 4 + 1]? = some (.string y.2.1) ∧ L[i * 4 + 2]? = some (.string y.2.2.1) ∧ L[i * 4 + 3]? = some (.slice A y.2.2.2.len c) ∧ SlI w S A y.2.2.2 := by
  induction l generalizing L i with
  | nil => simp [Its.get?] at hy
  | cons k n t l r ihl ihr =>
    obtain ⟨A, c, L', R, e, g1, g2, g3⟩ := h
    cases i with
    | zero =>
      simp only [Its.get?, Option.some.injEq] at hy
      subst hy
      subst e
      exact ⟨A, c, rfl, rfl, rfl, rfl, L', g1, g2⟩
    | succ i =>
      obtain ⟨A2, c2, a0, a1, a2, a3, a4⟩ := ihr g3 (i := i) hy
      subst e
      refine ⟨A2, c2, ?_, ?_, ?_, ?_, a4⟩
      · rw [show (i + 1) * 4 = i * 4 + 1 + 1 + 1 + 1 by omega]; simpa using a0
      · rw [show (i + 1) * 4 + 1 = i * 4 + 1 + 1 + 1 + 1 + 1 by omega]; simpa using a1
      · rw [show (i + 1) * 4 + 2 = i * 4 + 2 + 1 + 1 + 1 + 1 by omega]; simpa using a2
      · rw [show (i + 1) * 4 + 3 = i * 4 + 3 + 1 + 1 + 1 + 1 by omega]; simpa using a3
theorem SlI.keep (h : SlI w S A l) (hk : ∀ p : Addr, S p.block → w'.cell? p = w.cell? p) : SlI w' S A l := by
  obtain ⟨L, h1, h2⟩ := h
  exact ⟨L, h1.keep hk, h2.keep hk⟩
theorem SlI.mono (h : SlI w S A l) (hm : ∀ g, S g → S' g) : SlI w S' A l := by
  obtain ⟨L, h1, h2⟩ := h
  exact ⟨L, h1.mono hm, h2.mono hm⟩
theorem SlI.below {b : Nat} (h : SlI w S A l) (hb : Below b w w') (hs : ∀ g, S g → g < b) : SlI w' S A l := h.keep fun p hp => hb.cell (hs _ hp)
theorem SlI.nil_ : SlI w S none .nil := ⟨[], fun h => absurd h (by simp [Its.len]), rfl⟩
theorem SlI.drew (h : SlI w S A l) : SlI w.drew S A l := h.keep fun _ _ => rfl
theorem SlI.at_ (h : SlI w S A l) {i : Nat} {y : Its.One} (hy : l.get? i = some y) :
    ∃ g off A' c', A = some ⟨g, off, none⟩ ∧ S g ∧ w.cell? ⟨g, off + i * 4, none⟩ = some (.int .i64 y.1) ∧ w.cell? ⟨g, off + i * 4 + 1, none⟩ = some (.string y.2.1) ∧ w.cell? ⟨g, off + i * 4 + 2, none⟩ = some (.string y.2.2.1) ∧ w.cell? ⟨g, off + i * 4 + 3, none⟩ = some (.slice A' y.2.2.2.len c') ∧ SlI w S A' y.2.2.2 := by
  obtain ⟨L, h1, h2⟩ := h
  obtain ⟨g, off, e, hs, hc⟩ := h1 (Nat.lt_of_le_of_lt (Nat.zero_le _) (Its.lt_get hy))
  obtain ⟨A', c', a0, a1, a2, a3, a4⟩ := h2.get hy
  exact ⟨g, off, A', c', e, hs, hc _ _ a0, hc _ _ a1, hc _ _ a2, hc _ _ a3, a4⟩
end
/-- The cells of one item. -/
def cellsI (x : Its.One) (A : Option Addr) (c : Nat) : List Value := [.int .i64 x.1, .string x.2.1, .string x.2.2.1, .slice A x.2.2.2.len c]
/-- The value of one item. -/
def valI (x : Its.One) (A : Option Addr) (c : Nat) : Value := .agg #[.int .i64 x.1, .string x.2.1, .string x.2.2.1, .slice A x.2.2.2.len c]
theorem RelI.single {w : World} {S : Nat → Prop} {x : Its.One} {A : Option Addr} {c : Nat} (h : SlI w S A x.2.2.2) : RelI w S (Its.one x) (cellsI x A c) := by
  obtain ⟨L, h1, h2⟩ := h
  exact ⟨A, c, L, [], rfl, h1, h2, rfl⟩
/-- A row of items of the call's own; the items lie in other blocks. -/
def OwnI (w : World) (base : Nat) (v : Value) (l : Its) : Prop :=
  ∃ L, w.ownsRow base 69 4 v l.len L ∧ RelI w (fun g => base ≤ g ∧ g < w.heap.size ∧ v.ownBlock ≠ some g) l L
theorem OwnI.nil_ (w : World) (base : Nat) : OwnI w base (.slice none 0 0) .nil := ⟨[], World.ownsRow_nil w base _ 4, rfl⟩
theorem OwnI.blockOf {w : World} {base : Nat} {v : Value} {l : Its} (h : OwnI w base v l) : ∀ k, v.ownBlock = some k → base ≤ k ∧ k < w.heap.size := by
  obtain ⟨L, h1, _⟩ := h
  exact h1.lt
theorem OwnI.form {w : World} {base : Nat} {v : Value} {l : Its} (h : OwnI w base v l) : ∃ A c, v = .slice A l.len c ∧ SlI w (fun g => base ≤ g ∧ g < w.heap.size) A l := by
  obtain ⟨L, h1, h2⟩ := h
  rcases h1.2 with ⟨rfl, h0⟩ | ⟨g, cap, cur, rfl, hb, hg, _⟩
  · refine ⟨none, 0, by rw [h0], L, fun hn => absurd hn (by omega), h2.mono fun g hg => ⟨hg.1, hg.2.1⟩⟩
  · refine ⟨some ⟨g, 0, none⟩, cap, rfl, L, fun _ => ⟨g, 0, rfl, ⟨hb, (Array.getElem?_eq_some_iff.1 hg).1⟩, fun j u hu => ?_⟩, h2.mono fun g hg => ⟨hg.1, hg.2.1⟩⟩
    have := h1.cells (g := g) rfl j u hu
    rwa [addr_add] at this
theorem OwnI.kept {w w' : World} {base : Nat} {v : Value} {l : Its} (h : OwnI w base v l) (hb : Below w.heap.size w w') : OwnI w' base v l := by
  obtain ⟨L, h1, h2⟩ := h
  refine ⟨L, ⟨h1.1, ?_⟩, (h2.keep fun p hp => hb.cell hp.2.1).mono fun g hg => ⟨hg.1, Nat.lt_of_lt_of_le hg.2.1 hb.size, hg.2.2⟩⟩
  rcases h1.2 with hn | ⟨g, cap, cur, rfl, h3, hg, rest⟩
  · exact .inl hn
  · exact .inr ⟨g, cap, cur, rfl, h3, (hb.block g (Array.getElem?_eq_some_iff.1 hg).1).trans hg, rest⟩
theorem itemE : ∃ i : TypeInfo, Try.prog.info? 69 = some i ∧ i.zero = some (.agg #[.int .i64 0, .string ByteArray.empty, .string ByteArray.empty, .slice none 0 0]) ∧ i.size = 4 ∧ i.bytes = 64 := by
  have h : (Try.prog.info? 69).map (fun i => (i.zero, i.size, i.bytes)) = some (some (.agg #[.int .i64 0, .string ByteArray.empty, .string ByteArray.empty, .slice none 0 0]), 4, 64) := by kernel_rfl
  obtain ⟨i, h1, h2, h3, h4⟩ := info_parts h
  exact ⟨i, h1, h2, h3, h4⟩
/-- append of one new item, laid in the block g, onto a row of the call's own. -/
theorem wpList_append_I {w : World} {ops : Array Oper} {rest : List Oper} {o : Oper} {a : Act} {Q : Exit → Act → World → Prop} (hgd : o.guard = none) (s x : Operand)
    (ho : o.op = .call { callee := .builtin .append, args := #[s, x], argTypes := #[60, 60] })
    (base : Nat) (v : Value) (l : Its) (hs : a.eval s = v) (hown : OwnI w base v l) (y : Its.One) (A : Option Addr) (c g c' : Nat) (hx : a.eval x = .slice (some ⟨g, 0, none⟩) 1 c')
    (hg : w.heap[g]? = some (.cells (cellsI y A c).toArray 69 (0, 0))) (hy : SlI w (fun g => base ≤ g ∧ g < w.heap.size ∧ v.ownBlock ≠ some g) A y.2.2.2) (hsz : l.len ≤ 100000) (hbase : base ≤ w.heap.size)
    (h : ∀ v' w', OwnI w' base v' (l.app (Its.one y)) → Below base w w' → wpList Try.prog ops Q rest (a.put o.dst v') w') : wpList Try.prog ops Q (o :: rest) a w := by
  obtain ⟨i, hi, hz, hs1, hb1⟩ := itemE
  have hbk := hown.blockOf
  obtain ⟨L, h1, h2⟩ := hown
  have hlt : g < w.heap.size := (Array.getElem?_eq_some_iff.1 hg).1
  have hr : Reads w w.heap.size 4 (some ⟨g, 0, none⟩) 1 (cellsI y A c) := ⟨rfl, fun _ => ⟨_, rfl, hlt, fun j u hu => by
    rw [addr_add, Nat.zero_add]
    have := cell_of_row w g j _ _ _ hg
    rw [this, ← hu]
    simp⟩⟩
  have hone : ∀ u ∈ cellsI y A c, u.oneCell' = true := fun u hu => by
    simp only [cellsI, List.mem_cons, List.not_mem_nil, or_false] at hu
    rcases hu with rfl | rfl | rfl | rfl <;> rfl
  refine wpList_append_any w hgd s x 60 ho base 69 i (.agg #[.int .i64 0, .string ByteArray.empty, .string ByteArray.empty, .slice none 0 0]) 4 64 Try.underlying60 hi hz hs1 hb1 rfl (by decide) v l.len L hs h1 w.heap.size (some ⟨g, 0, none⟩) 1 c' (cellsI y A c) hx hr hone (by unfold maxLen; omega) (by omega) hbase ?_
  intro v' w' g1 g2 g3
  have hkeep : ∀ p : Addr, (base ≤ p.block ∧ p.block < w.heap.size ∧ v.ownBlock ≠ some p.block) → w'.cell? p = w.cell? p := fun p hp => World.cell?_of_block (g2.block p.block hp.2.1 (fun e => hp.2.2 e.symm))
  have hset : ∀ k, (base ≤ k ∧ k < w.heap.size ∧ v.ownBlock ≠ some k) → (base ≤ k ∧ k < w'.heap.size ∧ v'.ownBlock ≠ some k) := fun k hk => by
    refine ⟨hk.1, Nat.lt_of_lt_of_le hk.2.1 g2.size, ?_⟩
    rcases g3 with e | e
    · rw [e]; exact hk.2.2
    · rw [e]; intro e2; injection e2 with e2; have := hk.2.1; omega
  refine h v' w' ⟨L ++ cellsI y A c, by rw [Its.len_app]; exact g1, ((h2.keep hkeep).mono hset).app (RelI.single ((hy.keep hkeep).mono hset))⟩ (below_grown g2 hbase fun k hk => (hbk k hk).1)

end Go.Proofs.Ytlheedcnmfekoaa
