/- Encoding: lists of items in memory whose slices have room for what they hold. -/
import Derived.Test.YtlheedcnmfekoaaWc
namespace Go.Proofs.Ytlheedcnmfekoaa
open Go.RowKit
set_option maxRecDepth 100000
set_option linter.unusedVariables false
set_option maxHeartbeats 1000000

/-- The cells of a list of items. -/
def RelK (w : World) (S : Nat → Prop) : Its → List Value → Prop
  | .nil, L => L = []
  | .cons k n t l r, L => ∃ A c L' R, L = .int .i64 k :: .string n :: .string t :: .slice A l.len c :: R ∧ l.len ≤ c ∧ RowC w S A l.len L' ∧ RelK w S l L' ∧ RelK w S r R
/-- A slice that holds a list of items. -/
def SlK (w : World) (S : Nat → Prop) (A : Option Addr) (l : Its) : Prop := ∃ L, RowC w S A l.len L ∧ RelK w S l L
section
variable {w w' : World} {S S' : Nat → Prop} {A : Option Addr} {n : Nat} {L : List Value} {l : Its}
theorem RelK.keep (h : RelK w S l L) (hk : ∀ p : Addr, S p.block → w'.cell? p = w.cell? p) : RelK w' S l L := by
  induction l generalizing L with
  | nil => exact h
  | cons k n t l r ihl ihr =>
    obtain ⟨A, c, L', R, e, hc, h1, h2, h3⟩ := h
    exact ⟨A, c, L', R, e, hc, h1.keep hk, ihl h2, ihr h3⟩
theorem RelK.mono (h : RelK w S l L) (hm : ∀ g, S g → S' g) : RelK w S' l L := by
  induction l generalizing L with
  | nil => exact h
  | cons k n t l r ihl ihr =>
    obtain ⟨A, c, L', R, e, hc, h1, h2, h3⟩ := h
    exact ⟨A, c, L', R, e, hc, h1.mono hm, ihl h2, ihr h3⟩
theorem RelK.length (h : RelK w S l L) : L.length = l.len * 4 := by
  induction l generalizing L with
  | nil => cases h; rfl
  | cons k n t l r ihl ihr =>
    obtain ⟨A, c, L', R, e, hc, h1, h2, h3⟩ := h
    rw [e]
    simp only [List.length_cons, ihr h3, Its.len]
    omega
theorem RelK.one (h : RelK w S l L) : ∀ v ∈ L, v.oneCell' = true := by
  induction l generalizing L with
  | nil => cases h; simp
  | cons k n t l r ihl ihr =>
    obtain ⟨A, c, L', R, e, hc, h1, h2, h3⟩ := h
    rw [e]
    intro v hv
    simp only [List.mem_cons] at hv
    rcases hv with rfl | rfl | rfl | rfl | hv
    · rfl
    · rfl
    · rfl
    · rfl
    · exact ihr h3 v hv
theorem RelK.app {a b : Its} {La Lb : List Value} (h1 : RelK w S a La) (h2 : RelK w S b Lb) : RelK w S (a.app b) (La ++ Lb) := by
  induction a generalizing La with
  | nil => cases h1; exact h2
  | cons k n t l r ihl ihr =>
    obtain ⟨A, c, L', R, e, hc, g1, g2, g3⟩ := h1
    exact ⟨A, c, L', R ++ Lb, by rw [e]; rfl, hc, g1, g2, ihr g3⟩
theorem RelK.get (h : RelK w S l L) {i : Nat} {y : Its.One} (hy : l.get? i = some y) :
    ∃ A c, L[i * 4]? = some (.int .i64 y.1) ∧ L[i * 4 + 1]? = some (.string y.2.1) ∧ L[i * 4 + 2]? = some (.string y.2.2.1) ∧ L[i * 4 + 3]? = some (.slice A y.2.2.2.len c) ∧ y.2.2.2.len ≤ c ∧ SlK w S A y.2.2.2 := by
  induction l generalizing L i with
  | nil => simp [Its.get?] at hy
  | cons k n t l r ihl ihr =>
    obtain ⟨A, c, L', R, e, hc, g1, g2, g3⟩ := h
    cases i with
    | zero =>
      simp only [Its.get?, Option.some.injEq] at hy
      subst hy
      subst e
      exact ⟨A, c, rfl, rfl, rfl, rfl, hc, L', g1, g2⟩
    | succ i =>
      obtain ⟨A2, c2, a0, a1, a2, a3, ac, a4⟩ := ihr g3 (i := i) hy
      subst e
      refine ⟨A2, c2, ?_, ?_, ?_, ?_, ac, a4⟩
      · rw [show (i + 1) * 4 = i * 4 + 1 + 1 + 1 + 1 by omega]; simpa using a0
      · rw [show (i + 1) * 4 + 1 = i * 4 + 1 + 1 + 1 + 1 + 1 by omega]; simpa using a1
      · rw [show (i + 1) * 4 + 2 = i * 4 + 2 + 1 + 1 + 1 + 1 by omega]; simpa using a2
      · rw [show (i + 1) * 4 + 3 = i * 4 + 3 + 1 + 1 + 1 + 1 by omega]; simpa using a3
theorem SlK.keep (h : SlK w S A l) (hk : ∀ p : Addr, S p.block → w'.cell? p = w.cell? p) : SlK w' S A l := by
  obtain ⟨L, h1, h2⟩ := h
  exact ⟨L, h1.keep hk, h2.keep hk⟩
theorem SlK.mono (h : SlK w S A l) (hm : ∀ g, S g → S' g) : SlK w S' A l := by
  obtain ⟨L, h1, h2⟩ := h
  exact ⟨L, h1.mono hm, h2.mono hm⟩
theorem SlK.below {b : Nat} (h : SlK w S A l) (hb : Below b w w') (hs : ∀ g, S g → g < b) : SlK w' S A l := h.keep fun p hp => hb.cell (hs _ hp)
theorem SlK.nil_ : SlK w S none .nil := ⟨[], fun h => absurd h (by simp [Its.len]), rfl⟩
theorem SlK.drew (h : SlK w S A l) : SlK w.drew S A l := h.keep fun _ _ => rfl
theorem SlK.at_ (h : SlK w S A l) {i : Nat} {y : Its.One} (hy : l.get? i = some y) :
    ∃ g off A' c', A = some ⟨g, off, none⟩ ∧ S g ∧ w.cell? ⟨g, off + i * 4, none⟩ = some (.int .i64 y.1) ∧ w.cell? ⟨g, off + i * 4 + 1, none⟩ = some (.string y.2.1) ∧ w.cell? ⟨g, off + i * 4 + 2, none⟩ = some (.string y.2.2.1) ∧ w.cell? ⟨g, off + i * 4 + 3, none⟩ = some (.slice A' y.2.2.2.len c') ∧ y.2.2.2.len ≤ c' ∧ SlK w S A' y.2.2.2 := by
  obtain ⟨L, h1, h2⟩ := h
  obtain ⟨g, off, e, hs, hc⟩ := h1 (Nat.lt_of_le_of_lt (Nat.zero_le _) (Its.lt_get hy))
  obtain ⟨A', c', a0, a1, a2, a3, ac, a4⟩ := h2.get hy
  exact ⟨g, off, A', c', e, hs, hc _ _ a0, hc _ _ a1, hc _ _ a2, hc _ _ a3, ac, a4⟩
end
theorem RelK.single {w : World} {S : Nat → Prop} {x : Its.One} {A : Option Addr} {c : Nat} (hc : x.2.2.2.len ≤ c) (h : SlK w S A x.2.2.2) : RelK w S (Its.one x) (cellsI x A c) := by
  obtain ⟨L, h1, h2⟩ := h
  exact ⟨A, c, L, [], rfl, hc, h1, h2, rfl⟩
/-- A row of items of the call's own; the items lie in other blocks. -/
def OwnK (w : World) (base : Nat) (v : Value) (l : Its) : Prop :=
  ∃ L, w.ownsRow base 69 4 v l.len L ∧ RelK w (fun g => base ≤ g ∧ g < w.heap.size ∧ v.ownBlock ≠ some g) l L
theorem OwnK.nil_ (w : World) (base : Nat) : OwnK w base (.slice none 0 0) .nil := ⟨[], World.ownsRow_nil w base _ 4, rfl⟩
theorem OwnK.blockOf {w : World} {base : Nat} {v : Value} {l : Its} (h : OwnK w base v l) : ∀ k, v.ownBlock = some k → base ≤ k ∧ k < w.heap.size := by
  obtain ⟨L, h1, _⟩ := h
  exact h1.lt
theorem OwnK.form {w : World} {base : Nat} {v : Value} {l : Its} (h : OwnK w base v l) : ∃ A c, v = .slice A l.len c ∧ l.len ≤ c ∧ SlK w (fun g => base ≤ g ∧ g < w.heap.size) A l := by
  obtain ⟨L, h1, h2⟩ := h
  rcases h1.2 with ⟨rfl, h0⟩ | ⟨g, cap, cur, rfl, hb, hg, hcap, _⟩
  · refine ⟨none, 0, by rw [h0], by omega, L, fun hn => absurd hn (by omega), h2.mono fun g hg => ⟨hg.1, hg.2.1⟩⟩
  · refine ⟨some ⟨g, 0, none⟩, cap, rfl, hcap, L, fun _ => ⟨g, 0, rfl, ⟨hb, (Array.getElem?_eq_some_iff.1 hg).1⟩, fun j u hu => ?_⟩, h2.mono fun g hg => ⟨hg.1, hg.2.1⟩⟩
    have := h1.cells (g := g) rfl j u hu
    rwa [addr_add] at this
theorem OwnK.kept {w w' : World} {base : Nat} {v : Value} {l : Its} (h : OwnK w base v l) (hb : Below w.heap.size w w') : OwnK w' base v l := by
  obtain ⟨L, h1, h2⟩ := h
  refine ⟨L, ⟨h1.1, ?_⟩, (h2.keep fun p hp => hb.cell hp.2.1).mono fun g hg => ⟨hg.1, Nat.lt_of_lt_of_le hg.2.1 hb.size, hg.2.2⟩⟩
  rcases h1.2 with hn | ⟨g, cap, cur, rfl, h3, hg, rest⟩
  · exact .inl hn
  · exact .inr ⟨g, cap, cur, rfl, h3, (hb.block g (Array.getElem?_eq_some_iff.1 hg).1).trans hg, rest⟩
/-- append of one new item in a drawn region. -/
theorem step_append_K {ops : Array Oper} {o : Oper} {a : Act} {K : Act → World → Prop} {Q : Exit → Act → World → Prop} {E : Prop} {w : World} (hgd : o.guard = none) (s x : Operand)
    (ho : o.op = .call { callee := .builtin .append, args := #[s, x], argTypes := #[60, 60] })
    (base : Nat) (v : Value) (l : Its) (hs : a.eval s = v) (hown : OwnK w base v l) (y : Its.One) (A : Option Addr) (c g c' : Nat) (hx : a.eval x = .slice (some ⟨g, 0, none⟩) 1 c')
    (hg : w.heap[g]? = some (.cells (cellsI y A c).toArray 69 (0, 0))) (hyc : y.2.2.2.len ≤ c) (hy : SlK w (fun g => base ≤ g ∧ g < w.heap.size ∧ v.ownBlock ≠ some g) A y.2.2.2) (hsz : l.len ≤ 100000) (hbase : base ≤ w.heap.size)
    (h : ∀ v' w', OwnK w' base v' (l.app (Its.one y)) → w.grownBy w' v.ownBlock → K (a.put o.dst v') w') : if Region.wanted o (yielded ops a.tmps) = true then Oper.wp Try.prog o a w K Q else E := by
  obtain ⟨i, hi, hz, hs1, hb1⟩ := itemE
  have hbk := hown.blockOf
  obtain ⟨L, h1, h2⟩ := hown
  have hlt : g < w.heap.size := (Array.getElem?_eq_some_iff.1 hg).1
  have hr : Reads w w.heap.size 4 (some ⟨g, 0, none⟩) 1 (cellsI y A c) := ⟨rfl, fun _ => ⟨_, rfl, hlt, fun j u hu => by
    rw [addr_add, Nat.zero_add]
    have := cell_of_row w g j _ _ _ hg
    rw [this, ← hu]
    simp⟩⟩
  have hone : ∀ u ∈ cellsI y A c, u.oneCell' = true := fun u hu => by
    simp only [cellsI, List.mem_cons, List.not_mem_nil, or_false] at hu
    rcases hu with rfl | rfl | rfl | rfl <;> rfl
  refine step_append_any w hgd s x 60 ho base 69 i (.agg #[.int .i64 0, .string ByteArray.empty, .string ByteArray.empty, .slice none 0 0]) 4 64 Try.underlying60 hi hz hs1 hb1 rfl (by decide) v l.len L hs h1 w.heap.size (some ⟨g, 0, none⟩) 1 c' (cellsI y A c) hx hr hone (by unfold maxLen; omega) (by omega) hbase ?_
  intro v' w' g1 g2 g3
  have hkeep : ∀ p : Addr, (base ≤ p.block ∧ p.block < w.heap.size ∧ v.ownBlock ≠ some p.block) → w'.cell? p = w.cell? p := fun p hp => World.cell?_of_block (g2.block p.block hp.2.1 (fun e => hp.2.2 e.symm))
  have hset : ∀ k, (base ≤ k ∧ k < w.heap.size ∧ v.ownBlock ≠ some k) → (base ≤ k ∧ k < w'.heap.size ∧ v'.ownBlock ≠ some k) := fun k hk => by
    refine ⟨hk.1, Nat.lt_of_lt_of_le hk.2.1 g2.size, ?_⟩
    rcases g3 with e | e
    · rw [e]; exact hk.2.2
    · rw [e]; intro e2; injection e2 with e2; have := hk.2.1; omega
  refine h v' w' ⟨L ++ cellsI y A c, by rw [Its.len_app]; exact g1, ((h2.keep hkeep).mono hset).app (RelK.single hyc ((hy.keep hkeep).mono hset))⟩ g2

theorem RelK.to {w : World} {S : Nat → Prop} {l : Its} {L : List Value} (h : RelK w S l L) : RelI w S l L := by
  induction l generalizing L with
  | nil => exact h
  | cons k n t l r ihl ihr =>
    obtain ⟨A, c, L', R, e, hc, h1, h2, h3⟩ := h
    exact ⟨A, c, L', R, e, h1, ihl h2, ihr h3⟩
theorem SlK.to {w : World} {S : Nat → Prop} {A : Option Addr} {l : Its} (h : SlK w S A l) : SlI w S A l := by
  obtain ⟨L, h1, h2⟩ := h
  exact ⟨L, h1, h2.to⟩

end Go.Proofs.Ytlheedcnmfekoaa
