/- The reference: numbers of int as items (01.Of, 02.Make, 02.Of). Encoding: parts of a string; what changes but a reader's box; the length of what is read (plain). Encoding: lists of items in memory whose slices have room for what they hold. Wallet: the reader's next, text, nat, end where the items are as they should be. Encoding: Encode. -/
import Derived.Test.YtjhlddlocpkhkaaGreatWhJ04
import Derived.Test.YtjhlddlocpkhkaaGreatWhJ05
import Derived.Test.YtjhlddlocpkhkaaGreatWhJ06
import Derived.Test.YtjhlddlocpkhkaaGreatWhWk
import Derived.Test.YtjhlddlocpkhkaaGreatWhJ00
import Derived.Deep.DeepCutAuto
import Derived.Deep.CutBlock
namespace Go.Proofs.YtjhlddlocpkhkaaGreat
open Go.RowKit
set_option maxRecDepth 100000
set_option linter.unusedVariables false
set_option maxHeartbeats 8000000
theorem valid_posB {s : ByteArray} (h : 0 < s.size) : valid s = (decide ((s.size : Int) ≤ 128) && ((s[0].toNat : Int) != 0)) := by
  have h1 : ((s.size : Int) == 0) = false := by rw [beq_eq_false_iff_ne]; omega
  rw [valid_pos h, h1, Bool.false_or]
theorem r01_Valid (s : ByteArray) (w : World) :
    Calls Tryz.prog 70 #[.string s] w fun e w' => e = .returned (.bool (valid s)) ∧ w = w' := by
  by_cases h0 : 0 < s.size
  · have hv := Lib.hid (valid_posB h0)
    have he := isEmpty_pos h0
    go_enter Tryz.func70, Tryz.ntmps70
    go_wp2
    all_goals
      go_ret
      exact ⟨ret_bool (by rw [hv.out]; first | (simp [*]; done) | (simp; intros; omega)), rfl⟩
  · obtain rfl : s = ByteArray.empty := by
      apply ByteArray.ext
      apply Array.eq_empty_of_size_eq_zero
      show s.size = 0
      omega
    go_enter Tryz.func70, Tryz.ntmps70
    go_wp2
    go_ret
    exact ⟨rfl, rfl⟩
end Go.Proofs.YtjhlddlocpkhkaaGreat

namespace Go.Proofs.YtjhlddlocpkhkaaGreat
open Go.RowKit
set_option maxRecDepth 100000
set_option linter.unusedVariables false
set_option maxHeartbeats 4000000
/-- The bytes from a up to e. -/
def seg (s : ByteArray) (a e : Nat) : List UInt8 := (s.data.toList.take e).drop a
section
variable {s : ByteArray} {a e n : Nat}
theorem seg_len (he : e ≤ s.size) : (seg s a e).length = e - a := by
  unfold seg
  rw [List.length_drop, List.length_take, Nat.min_eq_left (by rw [Array.length_toList]; exact he)]
theorem seg_nil (h : e ≤ a) : seg s a e = [] := by
  unfold seg
  exact List.drop_eq_nil_of_le (Nat.le_trans (List.length_take_le _ _) h)
theorem seg_cons (h : a < e) (he : e ≤ s.size) : seg s a e = s[a]'(by omega) :: seg s (a + 1) e := by
  unfold seg
  have hl : a < (s.data.toList.take e).length := by rw [List.length_take, Nat.min_eq_left (by rw [Array.length_toList]; exact he)]; exact h
  rw [List.drop_eq_getElem_cons hl, List.getElem_take]
  rfl
theorem seg_take (h : a + n ≤ e) : (seg s a e).take n = seg s a (a + n) := by
  unfold seg
  rw [List.take_drop, List.take_take, Nat.min_eq_left (by omega)]
theorem seg_drop : (seg s a e).drop n = seg s (a + n) e := by
  unfold seg
  rw [List.drop_drop]
theorem seg_all : seg s 0 s.size = s.data.toList := by
  unfold seg
  rw [List.drop_zero, List.take_of_length_le (by rw [Array.length_toList]; exact Nat.le_refl _)]
theorem seg_extract (h : a ≤ e) (he : e ≤ s.size) : s.extract a e = ⟨(seg s a e).toArray⟩ := by
  unfold seg
  have : (s.extract a e).data = ((s.data.toList.take e).drop a).toArray := by
    rw [ByteArray.data_extract]
    apply Array.toList_inj.1
    simp [List.extract, List.take_drop, show a + (e - a) = e by omega]
  cases hx : s.extract a e
  rw [hx] at this
  simp only at this
  rw [this]
end
/-- What reading a length leaves over is the end of the same part. -/
theorem szS_seg {s : ByteArray} {f k a e n : Nat} {r : List UInt8} (he : e ≤ s.size) (h : szS f k (seg s a e) = some (n, r)) : ∃ a2, a < a2 ∧ a2 ≤ e ∧ r = seg s a2 e := by
  induction f generalizing k a n with
  | zero => simp [szS] at h
  | succ f ih =>
    by_cases hl : a < e
    · rw [seg_cons hl he] at h
      simp only [szS] at h
      split at h
      · cases h
      · split at h
        · simp only [Option.some.injEq, Prod.mk.injEq] at h
          exact ⟨a + 1, by omega, by omega, h.2.symm⟩
        · cases hs : szS f (k + 1) (seg s (a + 1) e) with
          | none => rw [hs] at h; cases h
          | some x =>
            rw [hs] at h
            simp only [Option.some.injEq, Prod.mk.injEq] at h
            obtain ⟨a2, h1, h2, h3⟩ := ih (n := x.1) (k := k + 1) (a := a + 1) (by rw [hs, ← h.2])
            exact ⟨a2, by omega, h2, h3⟩
    · rw [seg_nil (by omega)] at h
      simp [szS] at h
theorem szS_pos {f k n : Nat} {L r : List UInt8} (h : szS f k L = some (n, r)) (hk : 0 < k) : 0 < n := by
  induction f generalizing k L n with
  | zero => simp [szS] at h
  | succ f ih =>
    cases L with
    | nil => simp [szS] at h
    | cons b L =>
      simp only [szS] at h
      split at h
      · cases h
      · rename_i h0
        split at h
        · simp only [Option.some.injEq, Prod.mk.injEq] at h
          have : ¬ (b.toNat = 0 ∧ 0 < k) := h0
          have := h.1
          omega
        · cases hs : szS f (k + 1) L with
          | none => rw [hs] at h; cases h
          | some x =>
            rw [hs] at h
            simp only [Option.some.injEq, Prod.mk.injEq] at h
            have := ih (n := x.1) (k := k + 1) (L := L) (by rw [hs, ← h.2]) (by omega)
            omega
/-- One step: the byte, and either it is the last one or the others follow. -/
theorem szS_step {f k n : Nat} {b : UInt8} {L r : List UInt8} (h : szS (f + 1) k (b :: L) = some (n, r)) : ¬ (b.toNat = 0 ∧ 0 < k) ∧ ((b.toNat < 128 ∧ n = b.toNat ∧ r = L) ∨ (128 ≤ b.toNat ∧ ∃ m, szS f (k + 1) L = some (m, r) ∧ n = b.toNat - 128 + 128 * m)) := by
  simp only [szS] at h
  split at h
  · cases h
  · rename_i h0
    refine ⟨h0, ?_⟩
    split at h
    · rename_i h1
      simp only [Option.some.injEq, Prod.mk.injEq] at h
      exact .inl ⟨h1, h.1.symm, h.2.symm⟩
    · rename_i h1
      cases hs : szS f (k + 1) L with
      | none => rw [hs] at h; cases h
      | some x =>
        rw [hs] at h
        simp only [Option.some.injEq, Prod.mk.injEq] at h
        exact .inr ⟨by omega, x.1, by rw [← h.2], h.1.symm⟩
section
variable {w w' : World} {row : Option Nat}
theorem gb_set {rb i : Nat} {u : Value} : w.grownBy (w.setCell ⟨rb, i, none⟩ u) (some rb) := ⟨rfl, rfl, rfl, by simp, fun k _ hk => heap_setCell_other _ _ _ _ (fun e => hk (by rw [e]))⟩
theorem gb_below (h : Below w.heap.size w w') : w.grownBy w' row := ⟨h.os, h.tape, h.output, h.size, fun k hk _ => h.block k hk⟩
theorem gb_refl : w.grownBy w row := World.grownBy.refl w _
theorem gb_cell {p : Addr} {rb : Nat} (h : w.grownBy w' (some rb)) (hp : p.block < w.heap.size) (hr : p.block ≠ rb) : w'.cell? p = w.cell? p := World.cell?_of_block (h.block p.block hp (fun e => hr (by injection e)))
end
end Go.Proofs.YtjhlddlocpkhkaaGreat

namespace Go.Proofs.YtjhlddlocpkhkaaGreat
open Go.RowKit
set_option maxRecDepth 100000
set_option linter.unusedVariables false
set_option maxHeartbeats 1000000
/-- The cells of a list of items. -/
def RelK (w : World) (S : Nat → Prop) : Its → List Value → Prop
  | .nil, L => L = []
  | .cons k n t l r, L => ∃ A c L' R, L = .int .i64 k :: .string n :: .string t :: .slice A l.len c :: R ∧ l.len ≤ c ∧ RowC w S A l.len L' ∧ RelK w S l L' ∧ RelK w S r R
/-- A slice that holds a list of items. -/
def SlK (w : World) (S : Nat → Prop) (A : Option Addr) (l : Its) : Prop := ∃ L, RowC w S A l.len L ∧ RelK w S l L
section
variable {w w' : World} {S S' : Nat → Prop} {A : Option Addr} {n : Nat} {L : List Value} {l : Its}
theorem RelK.keep (h : RelK w S l L) (hk : ∀ p : Addr, S p.block → w'.cell? p = w.cell? p) : RelK w' S l L := by
  induction l generalizing L with
  | nil => exact h
  | cons k n t l r ihl ihr =>
    obtain ⟨A, c, L', R, e, hc, h1, h2, h3⟩ := h
    exact ⟨A, c, L', R, e, hc, h1.keep hk, ihl h2, ihr h3⟩
theorem RelK.mono (h : RelK w S l L) (hm : ∀ g, S g → S' g) : RelK w S' l L := by
  induction l generalizing L with
  | nil => exact h
  | cons k n t l r ihl ihr =>
    obtain ⟨A, c, L', R, e, hc, h1, h2, h3⟩ := h
    exact ⟨A, c, L', R, e, hc, h1.mono hm, ihl h2, ihr h3⟩
theorem RelK.length (h : RelK w S l L) : L.length = l.len * 4 := by
  induction l generalizing L with
  | nil => cases h; rfl
  | cons k n t l r ihl ihr =>
    obtain ⟨A, c, L', R, e, hc, h1, h2, h3⟩ := h
    rw [e]
    simp only [List.length_cons, ihr h3, Its.len]
    omega
theorem RelK.one (h : RelK w S l L) : ∀ v ∈ L, v.oneCell' = true := by
  induction l generalizing L with
  | nil => cases h; simp
  | cons k n t l r ihl ihr =>
    obtain ⟨A, c, L', R, e, hc, h1, h2, h3⟩ := h
    rw [e]
    intro v hv
    simp only [List.mem_cons] at hv
    rcases hv with rfl | rfl | rfl | rfl | hv
    · rfl
    · rfl
    · rfl
    · rfl
    · exact ihr h3 v hv
theorem RelK.app {a b : Its} {La Lb : List Value} (h1 : RelK w S a La) (h2 : RelK w S b Lb) : RelK w S (a.app b) (La ++ Lb) := by
  induction a generalizing La with
  | nil => cases h1; exact h2
  | cons k n t l r ihl ihr =>
    obtain ⟨A, c, L', R, e, hc, g1, g2, g3⟩ := h1
    exact ⟨A, c, L', R ++ Lb, by rw [e]; rfl, hc, g1, g2, ihr g3⟩
theorem RelK.get (h : RelK w S l L) {i : Nat} {y : Its.One} (hy : l.get? i = some y) :
    ∃ A c, L[i * 4]? = some (.int .i64 y.1) ∧ L[i * 4 + 1]? = some (.string y.2.1) ∧ L[i * 4 + 2]? = some (.string y.2.2.1) ∧ L[i * 4 + 3]? = some (.slice A y.2.2.2.len c) ∧ y.2.2.2.len ≤ c ∧ SlK w S A y.2.2.2 := by
  induction l generalizing L i with
  | nil => simp [Its.get?] at hy
  | cons k n t l r ihl ihr =>
    obtain ⟨A, c, L', R, e, hc, g1, g2, g3⟩ := h
    cases i with
    | zero =>
      simp only [Its.get?, Option.some.injEq] at hy
      subst hy
      subst e
      exact ⟨A, c, rfl, rfl, rfl, rfl, hc, L', g1, g2⟩
    | succ i =>
      obtain ⟨A2, c2, a0, a1, a2, a3, ac, a4⟩ := ihr g3 (i := i) hy
      subst e
      refine ⟨A2, c2, ?_, ?_, ?_, ?_, ac, a4⟩
      · rw [show (i + 1) * 4 = i * 4 + 1 + 1 + 1 + 1 by omega]; simpa using a0
      · rw [show (i + 1) * 4 + 1 = i * 4 + 1 + 1 + 1 + 1 + 1 by omega]; simpa using a1
      · rw [show (i + 1) * 4 + 2 = i * 4 + 2 + 1 + 1 + 1 + 1 by omega]; simpa using a2
      · rw [show (i + 1) * 4 + 3 = i * 4 + 3 + 1 + 1 + 1 + 1 by omega]; simpa using a3
theorem SlK.keep (h : SlK w S A l) (hk : ∀ p : Addr, S p.block → w'.cell? p = w.cell? p) : SlK w' S A l := by
  obtain ⟨L, h1, h2⟩ := h
  exact ⟨L, h1.keep hk, h2.keep hk⟩
theorem SlK.mono (h : SlK w S A l) (hm : ∀ g, S g → S' g) : SlK w S' A l := by
  obtain ⟨L, h1, h2⟩ := h
  exact ⟨L, h1.mono hm, h2.mono hm⟩
theorem SlK.below {b : Nat} (h : SlK w S A l) (hb : Below b w w') (hs : ∀ g, S g → g < b) : SlK w' S A l := h.keep fun p hp => hb.cell (hs _ hp)
theorem SlK.nil_ : SlK w S none .nil := ⟨[], fun h => absurd h (by simp [Its.len]), rfl⟩
theorem SlK.drew (h : SlK w S A l) : SlK w.drew S A l := h.keep fun _ _ => rfl
theorem SlK.at_ (h : SlK w S A l) {i : Nat} {y : Its.One} (hy : l.get? i = some y) :
    ∃ g off A' c', A = some ⟨g, off, none⟩ ∧ S g ∧ w.cell? ⟨g, off + i * 4, none⟩ = some (.int .i64 y.1) ∧ w.cell? ⟨g, off + i * 4 + 1, none⟩ = some (.string y.2.1) ∧ w.cell? ⟨g, off + i * 4 + 2, none⟩ = some (.string y.2.2.1) ∧ w.cell? ⟨g, off + i * 4 + 3, none⟩ = some (.slice A' y.2.2.2.len c') ∧ y.2.2.2.len ≤ c' ∧ SlK w S A' y.2.2.2 := by
  obtain ⟨L, h1, h2⟩ := h
  obtain ⟨g, off, e, hs, hc⟩ := h1 (Nat.lt_of_le_of_lt (Nat.zero_le _) (Its.lt_get hy))
  obtain ⟨A', c', a0, a1, a2, a3, ac, a4⟩ := h2.get hy
  exact ⟨g, off, A', c', e, hs, hc _ _ a0, hc _ _ a1, hc _ _ a2, hc _ _ a3, ac, a4⟩
end
theorem RelK.single {w : World} {S : Nat → Prop} {x : Its.One} {A : Option Addr} {c : Nat} (hc : x.2.2.2.len ≤ c) (h : SlK w S A x.2.2.2) : RelK w S (Its.one x) (cellsI x A c) := by
  obtain ⟨L, h1, h2⟩ := h
  exact ⟨A, c, L, [], rfl, hc, h1, h2, rfl⟩
/-- A row of items of the call's own; the items lie in other blocks. -/
def OwnK (w : World) (base : Nat) (v : Value) (l : Its) : Prop :=
  ∃ L, w.ownsRow base 63 4 v l.len L ∧ RelK w (fun g => base ≤ g ∧ g < w.heap.size ∧ v.ownBlock ≠ some g) l L
theorem OwnK.nil_ (w : World) (base : Nat) : OwnK w base (.slice none 0 0) .nil := ⟨[], World.ownsRow_nil w base _ 4, rfl⟩
theorem OwnK.blockOf {w : World} {base : Nat} {v : Value} {l : Its} (h : OwnK w base v l) : ∀ k, v.ownBlock = some k → base ≤ k ∧ k < w.heap.size := by
  obtain ⟨L, h1, _⟩ := h
  exact h1.lt
theorem OwnK.form {w : World} {base : Nat} {v : Value} {l : Its} (h : OwnK w base v l) : ∃ A c, v = .slice A l.len c ∧ l.len ≤ c ∧ SlK w (fun g => base ≤ g ∧ g < w.heap.size) A l := by
  obtain ⟨L, h1, h2⟩ := h
  rcases h1.2 with ⟨rfl, h0⟩ | ⟨g, cap, cur, rfl, hb, hg, hcap, _⟩
  · refine ⟨none, 0, by rw [h0], by omega, L, fun hn => absurd hn (by omega), h2.mono fun g hg => ⟨hg.1, hg.2.1⟩⟩
  · refine ⟨some ⟨g, 0, none⟩, cap, rfl, hcap, L, fun _ => ⟨g, 0, rfl, ⟨hb, (Array.getElem?_eq_some_iff.1 hg).1⟩, fun j u hu => ?_⟩, h2.mono fun g hg => ⟨hg.1, hg.2.1⟩⟩
    have := h1.cells (g := g) rfl j u hu
    rwa [addr_add] at this
theorem OwnK.kept {w w' : World} {base : Nat} {v : Value} {l : Its} (h : OwnK w base v l) (hb : Below w.heap.size w w') : OwnK w' base v l := by
  obtain ⟨L, h1, h2⟩ := h
  refine ⟨L, ⟨h1.1, ?_⟩, (h2.keep fun p hp => hb.cell hp.2.1).mono fun g hg => ⟨hg.1, Nat.lt_of_lt_of_le hg.2.1 hb.size, hg.2.2⟩⟩
  rcases h1.2 with hn | ⟨g, cap, cur, rfl, h3, hg, rest⟩
  · exact .inl hn
  · exact .inr ⟨g, cap, cur, rfl, h3, (hb.block g (Array.getElem?_eq_some_iff.1 hg).1).trans hg, rest⟩
/-- append of one new item in a drawn region. -/
theorem step_append_K {ops : Array Oper} {o : Oper} {a : Act} {K : Act → World → Prop} {Q : Exit → Act → World → Prop} {E : Prop} {w : World} (hgd : o.guard = none) (s x : Operand)
    (ho : o.op = .call { callee := .builtin .append, args := #[s, x], argTypes := #[61, 61] })
    (base : Nat) (v : Value) (l : Its) (hs : a.eval s = v) (hown : OwnK w base v l) (y : Its.One) (A : Option Addr) (c g c' : Nat) (hx : a.eval x = .slice (some ⟨g, 0, none⟩) 1 c')
    (hg : w.heap[g]? = some (.cells (cellsI y A c).toArray 63 (0, 0))) (hyc : y.2.2.2.len ≤ c) (hy : SlK w (fun g => base ≤ g ∧ g < w.heap.size ∧ v.ownBlock ≠ some g) A y.2.2.2) (hsz : l.len ≤ 100000) (hbase : base ≤ w.heap.size)
    (h : ∀ v' w', OwnK w' base v' (l.app (Its.one y)) → w.grownBy w' v.ownBlock → K (a.put o.dst v') w') : if Region.wanted o (yielded ops a.tmps) = true then Oper.wp Tryz.prog o a w K Q else E := by
  obtain ⟨i, hi, hz, hs1, hb1⟩ := itemE
  have hbk := hown.blockOf
  obtain ⟨L, h1, h2⟩ := hown
  have hlt : g < w.heap.size := (Array.getElem?_eq_some_iff.1 hg).1
  have hr : Reads w w.heap.size 4 (some ⟨g, 0, none⟩) 1 (cellsI y A c) := ⟨rfl, fun _ => ⟨_, rfl, hlt, fun j u hu => by
    rw [addr_add, Nat.zero_add]
    have := cell_of_row w g j _ _ _ hg
    rw [this, ← hu]
    simp⟩⟩
  have hone : ∀ u ∈ cellsI y A c, u.oneCell' = true := fun u hu => by
    simp only [cellsI, List.mem_cons, List.not_mem_nil, or_false] at hu
    rcases hu with rfl | rfl | rfl | rfl <;> rfl
  refine step_append_any w hgd s x 61 ho base 63 i (.agg #[.int .i64 0, .string ByteArray.empty, .string ByteArray.empty, .slice none 0 0]) 4 64 Tryz.underlying61 hi hz hs1 hb1 rfl (by decide) v l.len L hs h1 w.heap.size (some ⟨g, 0, none⟩) 1 c' (cellsI y A c) hx hr hone (by unfold maxLen; omega) (by omega) hbase ?_
  intro v' w' g1 g2 g3
  have hkeep : ∀ p : Addr, (base ≤ p.block ∧ p.block < w.heap.size ∧ v.ownBlock ≠ some p.block) → w'.cell? p = w.cell? p := fun p hp => World.cell?_of_block (g2.block p.block hp.2.1 (fun e => hp.2.2 e.symm))
  have hset : ∀ k, (base ≤ k ∧ k < w.heap.size ∧ v.ownBlock ≠ some k) → (base ≤ k ∧ k < w'.heap.size ∧ v'.ownBlock ≠ some k) := fun k hk => by
    refine ⟨hk.1, Nat.lt_of_lt_of_le hk.2.1 g2.size, ?_⟩
    rcases g3 with e | e
    · rw [e]; exact hk.2.2
    · rw [e]; intro e2; injection e2 with e2; have := hk.2.1; omega
  refine h v' w' ⟨L ++ cellsI y A c, by rw [Its.len_app]; exact g1, ((h2.keep hkeep).mono hset).app (RelK.single hyc ((hy.keep hkeep).mono hset))⟩ g2
theorem RelK.to {w : World} {S : Nat → Prop} {l : Its} {L : List Value} (h : RelK w S l L) : RelI w S l L := by
  induction l generalizing L with
  | nil => exact h
  | cons k n t l r ihl ihr =>
    obtain ⟨A, c, L', R, e, hc, h1, h2, h3⟩ := h
    exact ⟨A, c, L', R, e, h1, ihl h2, ihr h3⟩
theorem SlK.to {w : World} {S : Nat → Prop} {A : Option Addr} {l : Its} (h : SlK w S A l) : SlI w S A l := by
  obtain ⟨L, h1, h2⟩ := h
  exact ⟨L, h1, h2.to⟩
end Go.Proofs.YtjhlddlocpkhkaaGreat

namespace Go.Proofs.YtjhlddlocpkhkaaGreat
open Go.RowKit
set_option maxRecDepth 100000
set_option linter.unusedVariables false
set_option maxHeartbeats 8000000
/-- The reader's box. -/
def RdI (A : Option Addr) (n c rb : Nat) (w : World) : Prop := w.heap[rb]? = some (.cells #[.slice A n c] 75 (0, 0))
section
variable {A : Option Addr} {n c rb : Nat} {w w' : World}
theorem RdI.cells (h : RdI A n c rb w) : w.cell? ⟨rb, 0, none⟩ = some (.slice A n c) ∧ w.frozen? ⟨rb, 0, none⟩ = false := ⟨cell_of_row w _ 0 _ _ _ h, frozen_of_row w _ 0 _ _ h⟩
theorem RdI.lt (h : RdI A n c rb w) : rb < w.heap.size := (Array.getElem?_eq_some_iff.1 h).1
theorem RdI.keep (h : RdI A n c rb w) (hb : Below w.heap.size w w') : RdI A n c rb w' := (hb.block _ h.lt).trans h
theorem RdI.put (h : RdI A n c rb w) (A' : Option Addr) (n' c' : Nat) : RdI A' n' c' rb (w.setCell ⟨rb, 0, none⟩ (.slice A' n' c')) := heap_setCell_same w rb 0 _ _ _ h
end
theorem gb_set_new {w wx : World} {p : Addr} {u : Value} {row : Option Nat} (h : w.grownBy wx row) (hp : w.heap.size ≤ p.block) : w.grownBy (wx.setCell p u) row :=
  ⟨h.os, h.tape, h.output, by simpa using h.size, fun k hk hne => (heap_setCell_other _ _ _ _ (by omega)).trans (h.block k hk hne)⟩
/-- What next hands back. -/
def NxGot (w : World) (rb : Nat) (S : Nat → Prop) (k : Int) (n t : ByteArray) (l r : Its) (o : Ending) (w' : World) : Prop :=
  ∃ A1 c1 A2 c2, o = .returned (.agg #[.int .i64 k, .string n, .string t, .slice A1 l.len c1]) ∧ l.len ≤ c1 ∧ r.len ≤ c2 ∧ SlK w' S A1 l ∧ SlK w' S A2 r ∧ RdI A2 r.len c2 rb w' ∧ w.grownBy w' (some rb)
theorem wal_next (k : Int) (n t : ByteArray) (l r : Its) (A : Option Addr) (m c rb : Nat) (S : Nat → Prop) (w : World) (hm : r.len + 1 = m) (hm2 : m ≤ 100000) (hc : m ≤ c) (hb : RdI A m c rb w) (hsl : SlK w S A (.cons k n t l r)) (hS : ∀ g, S g → g < w.heap.size ∧ g ≠ rb) :
    Calls Tryz.prog 69 #[.pointer (some ⟨rb, 0, none⟩), .int .i64 k] w (NxGot w rb S k n t l r) := by
  obtain ⟨L, hrow, A1, c1, L', R, hL, hc1, hr1, hr2, hr3⟩ := hsl
  obtain ⟨g, off, rfl, hg, hcell⟩ := hrow (by simp [Its.len])
  have y0 := hcell 0 (.int .i64 k) (by rw [hL]; rfl)
  have y1 := hcell 1 (.string n) (by rw [hL]; rfl)
  have y2 := hcell 2 (.string t) (by rw [hL]; rfl)
  have y3 := hcell 3 (.slice A1 l.len c1) (by rw [hL]; rfl)
  rw [Nat.add_zero] at y0
  have HB := Lib.hid hb
  have hlt := hb.lt
  have hglt := (hS g hg).1
  have HS := Lib.hid hS
  have HL1 : Hid (SlK w S A1 l) := Lib.hid ⟨L', hr1, hr2⟩
  have hrr : SlK w S (some ⟨g, off + 4, none⟩) r := ⟨R, fun h0 => ⟨g, off + 4, rfl, hg, fun j u hj => by
    have := hcell (4 + j) u (by rw [hL]; simpa [Nat.add_comm] using hj)
    rwa [← Nat.add_assoc] at this⟩, hr3⟩
  have HRR := Lib.hid hrr
  clear hrr
  have HC1 := Lib.hid hc1
  obtain ⟨x0, f0⟩ := hb.cells
  have i1 : decide ((m : Int) = 0) = false := by simp; omega
  have i2 : ((m : Int) == 0) = false := by simp; omega
  have i3 : (0 : Int) < (m : Int) := by omega
  have i4 : 0 < m := by omega
  have i5 : 1 ≤ m := by omega
  have i6 : (1 : Int) ≤ (m : Int) := by omega
  have HM := Lib.hid (And.intro hm hc)
  clear hb hS hr1 hr2 hr3 hc1 hL hcell hrow hm
  go_enter Tryz.func69, Tryz.ntmps69
  go_upto_region 5 with fail
  obtain ⟨A2, hA2⟩ : ∃ A2, (if c = 1 then (some ⟨g, off, none⟩ : Option Addr) else some ⟨g, off + 4, none⟩) = A2 := ⟨_, rfl⟩
  rw [hA2]
  have HRR2 : Hid (SlK w S A2 r) := Lib.hid (by
    by_cases h1 : c = 1
    · have h0 : r.len = 0 := by have := HM.out; omega
      obtain ⟨R', hr4, hr5⟩ := HRR.out
      exact ⟨R', fun hx => absurd hx (by omega), hr5⟩
    · rw [← hA2, if_neg h1]
      exact HRR.out)
  clear hA2
  have hb5 : RdI A2 (m - 1) (c - 1) rb (((w.setCell ⟨rb, 0, none⟩ (.slice A2 (m - 1) (c - 1))).alloc (.cells #[.int .i64 0, .string ⟨#[]⟩, .string ⟨#[]⟩, .slice none 0 0] 63)).alloc (.cells #[.int .i64 k, .string n, .string t, .slice A1 l.len c1] 63)) := ((HB.out.put A2 (m - 1) (c - 1)).keep ((Below.refl _ _).alloc (Nat.le_refl _) _)).keep ((Below.refl _ _).alloc (Nat.le_refl _) _)
  have hg5 : w.grownBy (((w.setCell ⟨rb, 0, none⟩ (.slice A2 (m - 1) (c - 1))).alloc (.cells #[.int .i64 0, .string ⟨#[]⟩, .string ⟨#[]⟩, .slice none 0 0] 63)).alloc (.cells #[.int .i64 k, .string n, .string t, .slice A1 l.len c1] 63)) (some rb) := (gb_set.trans (gb_below ((Below.refl _ _).alloc (Nat.le_refl _) _))).trans (gb_below ((Below.refl _ _).alloc (Nat.le_refl _) _))
  have h2b := two_boxes (w.setCell ⟨rb, 0, none⟩ (.slice A2 (m - 1) (c - 1))) (.cells #[.int .i64 0, .string ⟨#[]⟩, .string ⟨#[]⟩, .slice none 0 0] 63) (.cells #[.int .i64 k, .string n, .string t, .slice A1 l.len c1] 63)
  rw [World.size_setCell] at h2b
  have hz5 : (((w.setCell ⟨rb, 0, none⟩ (.slice A2 (m - 1) (c - 1))).alloc (.cells #[.int .i64 0, .string ⟨#[]⟩, .string ⟨#[]⟩, .slice none 0 0] 63)).alloc (.cells #[.int .i64 k, .string n, .string t, .slice A1 l.len c1] 63)).heap.size = w.heap.size + 2 := by simp
  have HB5 := Lib.hid hb5
  have HG5 := Lib.hid hg5
  have H2B := Lib.hid h2b
  clear hb5 hg5 h2b hz5 x0 f0
  obtain ⟨w5, hw5⟩ : ∃ w5, (((w.setCell ⟨rb, 0, none⟩ (.slice A2 (m - 1) (c - 1))).alloc (.cells #[.int .i64 0, .string ⟨#[]⟩, .string ⟨#[]⟩, .slice none 0 0] 63)).alloc (.cells #[.int .i64 k, .string n, .string t, .slice A1 l.len c1] 63)) = w5 := ⟨_, rfl⟩
  rw [hw5] at HB5 HG5 H2B ⊢
  clear hw5
  have t0 := cell_of_row _ _ 0 _ _ _ H2B.out.2
  have t1 := cell_of_row _ _ 1 _ _ _ H2B.out.2
  have t2 := cell_of_row _ _ 2 _ _ _ H2B.out.2
  have t3 := cell_of_row _ _ 3 _ _ _ H2B.out.2
  have r0 := cell_of_row _ _ 0 _ _ _ H2B.out.1
  have r1 := cell_of_row _ _ 1 _ _ _ H2B.out.1
  have r2 := cell_of_row _ _ 2 _ _ _ H2B.out.1
  have r3 := cell_of_row _ _ 3 _ _ _ H2B.out.1
  have g0 := frozen_of_row _ _ 0 _ _ H2B.out.1
  have g1 := frozen_of_row _ _ 1 _ _ H2B.out.1
  have g2 := frozen_of_row _ _ 2 _ _ H2B.out.1
  have g3 := frozen_of_row _ _ 3 _ _ H2B.out.1
  go_wp2_with fail
  refine bodyPost_ret (v := .agg #[.int .i64 k, .string n, .string t, .slice A1 l.len c1]) (by simp [results, Tryz.results69, go_sem, r0, r1, r2, r3]) rfl ?_
  have hm1 : r.len = m - 1 := by have := HM.out; omega
  have hgr : w.grownBy ((((w5.setCell ⟨w.heap.size, 0, none⟩ (.int .i64 k)).setCell ⟨w.heap.size, 1, none⟩ (.string n)).setCell ⟨w.heap.size, 2, none⟩ (.string t)).setCell ⟨w.heap.size, 3, none⟩ (.slice A1 l.len c1)) (some rb) :=
    gb_set_new (gb_set_new (gb_set_new (gb_set_new HG5.out (Nat.le_refl _)) (Nat.le_refl _)) (Nat.le_refl _)) (Nat.le_refl _)
  refine ⟨A1, c1, A2, c - 1, rfl, HC1.out, by have := HM.out; omega, HL1.out.keep (fun p hp => gb_cell hgr (HS.out _ hp).1 (HS.out _ hp).2), HRR2.out.keep (fun p hp => gb_cell hgr (HS.out _ hp).1 (HS.out _ hp).2), ?_, hgr⟩
  rw [hm1]
  have hne : rb ≠ w.heap.size := by omega
  unfold RdI
  rw [heap_setCell_other _ _ _ _ hne, heap_setCell_other _ _ _ _ hne, heap_setCell_other _ _ _ _ hne, heap_setCell_other _ _ _ _ hne]
  exact HB5.out
theorem fld_1 (k : Int) (n t : ByteArray) (A : Option Addr) (ln c : Nat) (w : World) : (Instr.field 63 (.agg #[.int .i64 k, .string n, .string t, .slice A ln c]) 1).run Tryz.prog w = .ok (.string n) w := by kernel_rfl
theorem fld_2 (k : Int) (n t : ByteArray) (A : Option Addr) (ln c : Nat) (w : World) : (Instr.field 63 (.agg #[.int .i64 k, .string n, .string t, .slice A ln c]) 2).run Tryz.prog w = .ok (.string t) w := by kernel_rfl
theorem fld_3 (k : Int) (n t : ByteArray) (A : Option Addr) (ln c : Nat) (w : World) : (Instr.field 63 (.agg #[.int .i64 k, .string n, .string t, .slice A ln c]) 3).run Tryz.prog w = .ok (.slice A ln c) w := by kernel_rfl
/-- What text and nat hand back. -/
def StGot (w : World) (rb : Nat) (S : Nat → Prop) (x : ByteArray) (r : Its) (o : Ending) (w' : World) : Prop :=
  ∃ A2 c2, o = .returned (.string x) ∧ r.len ≤ c2 ∧ SlK w' S A2 r ∧ RdI A2 r.len c2 rb w' ∧ w.grownBy w' (some rb)
theorem wal_text (n t : ByteArray) (l r : Its) (A : Option Addr) (m c rb : Nat) (S : Nat → Prop) (w : World) (hm : r.len + 1 = m) (hm2 : m ≤ 100000) (hc : m ≤ c) (hb : RdI A m c rb w) (hsl : SlK w S A (.cons 1 n t l r)) (hS : ∀ g, S g → g < w.heap.size ∧ g ≠ rb) :
    Calls Tryz.prog 27 #[.pointer (some ⟨rb, 0, none⟩)] w (StGot w rb S t r) := by
  have HN := Lib.hid (wal_next 1 n t l r A m c rb S w hm hm2 hc hb hsl hS)
  have hf2 := fld_2
  clear hb hsl hS hm hc hm2
  go_enter Tryz.func27, Tryz.ntmps27
  go_wp2_with (go_at_call 69; (with_reducible refine HN.out.mono ?_); rintro o w5 ⟨A1, c1, A2, c2, rfl, h1, h2, h3, h4, h5, h6⟩; have H := Lib.hid (show StGot w rb S t r (.returned (.string t)) w5 from ⟨A2, c2, rfl, h2, h4, h5, h6⟩); clear h1 h2 h3 h4 h5 h6)
  go_ret
  exact H.out
theorem wal_nat (n t : ByteArray) (l r : Its) (A : Option Addr) (m c rb : Nat) (S : Nat → Prop) (w : World) (hm : r.len + 1 = m) (hm2 : m ≤ 100000) (hc : m ≤ c) (hb : RdI A m c rb w) (hsl : SlK w S A (.cons 0 n t l r)) (hS : ∀ g, S g → g < w.heap.size ∧ g ≠ rb) :
    Calls Tryz.prog 58 #[.pointer (some ⟨rb, 0, none⟩)] w (StGot w rb S n r) := by
  have HN := Lib.hid (wal_next 0 n t l r A m c rb S w hm hm2 hc hb hsl hS)
  have hf1 := fld_1
  clear hb hsl hS hm hc hm2
  go_enter Tryz.func58, Tryz.ntmps58
  go_wp2_with (go_at_call 69; (with_reducible refine HN.out.mono ?_); rintro o w5 ⟨A1, c1, A2, c2, rfl, h1, h2, h3, h4, h5, h6⟩; have H := Lib.hid (show StGot w rb S n r (.returned (.string n)) w5 from ⟨A2, c2, rfl, h2, h4, h5, h6⟩); clear h1 h2 h3 h4 h5 h6)
  go_ret
  exact H.out
theorem wal_end (A : Option Addr) (c rb : Nat) (w : World) (hb : RdI A 0 c rb w) :
    Calls Tryz.prog 59 #[.pointer (some ⟨rb, 0, none⟩)] w fun o w' => o = .returned (.tuple #[]) ∧ w = w' := by
  obtain ⟨x0, f0⟩ := hb.cells
  go_enter Tryz.func59, Tryz.ntmps59
  go_wp2_with fail
  exact bodyPost_end (v := .tuple #[]) (by simp [results, Tryz.results59, go_sem]) rfl ⟨rfl, rfl⟩
end Go.Proofs.YtjhlddlocpkhkaaGreat

namespace Go.Proofs.YtjhlddlocpkhkaaGreat
open Go.RowKit
set_option maxRecDepth 100000
set_option linter.unusedVariables false
set_option maxHeartbeats 4000000
theorem enc_Encode (y : Its.One) (A : Option Addr) (c : Nat) (S : Nat → Prop) (w : World) (hsz : y.2.2.2.size ≤ 100000) (hel : (encOne y).length ≤ 200000000) (hsl : SlI w S A y.2.2.2) (hS : ∀ g, S g → g < w.heap.size) :
    Calls Tryz.prog 121 #[valI y A c] w fun e w' => e = .returned (.tuple #[.string (encS y).1, .int .i64 (encS y).2]) ∧ Below w.heap.size w w' := by
  obtain ⟨k, n, t, l⟩ := y
  have HS := Lib.hid hS
  have HV := Lib.hid (VaAt.start (k := k) (n := n) (t := t) (A := A) (l := l) (c := c) hsl hS)
  have hlt : ∀ (wx : World), VaAt w S k n t A l c wx → ∀ g, S g → g < wx.heap.size := fun wx hb g hg => Nat.lt_of_lt_of_le (hS g hg) hb.bel.size
  have HVA := fun (wx : World) (hb : VaAt w S k n t A l c wx) => Lib.hid (enc_valid l.size (k, n, t, l) A c S wx (Nat.le_refl _) hsz hb.src (hlt wx hb))
  have HDE := fun (wx : World) (hb : VaAt w S k n t A l c wx) => Lib.hid (enc_depth l.size (k, n, t, l) A c S wx (Nat.le_refl _) hsz hb.src (hlt wx hb))
  have HWR := fun (wx : World) (hb : VaAt w S k n t A l c wx) (hok : okOne (k, n, t, l) = true) => Lib.hid (enc_write l.size (k, n, t, l) A c S wx (Nat.le_refl _) hsz hok hel hb.src (hlt wx hb))
  clear hsl hS hsz hlt
  unfold valI at HVA HDE HWR ⊢
  dsimp only at HVA HDE HWR ⊢
  obtain ⟨D, hD⟩ : ∃ D, deepOne (k, n, t, l) = D := ⟨_, rfl⟩
  obtain ⟨E, hE⟩ : ∃ E, encOne (k, n, t, l) = E := ⟨_, rfl⟩
  unfold encS
  rw [hD, hE]
  rw [hD] at HDE
  rw [hE] at HWR hel
  clear hD hE
  by_cases hok : okOne (k, n, t, l) = true
  · rw [hok] at HVA
    have HWR2 := fun wx hb => HWR wx hb hok
    rw [if_pos hok]
    clear HWR hok
    by_cases hd : D ≤ deepMax
    · rw [if_pos hd]
      have k1 : decide ((32 : Int) < (D : Int)) = false := decide_eq_false (by unfold deepMax at hd; omega)
      have k2 : decide ((32 : Nat) < D) = false := decide_eq_false (by unfold deepMax at hd; omega)
      clear hd
      by_cases he : E.length ≤ textMax
      · rw [if_pos he]
        have k3 : decide ((65536 : Int) < (E.length : Int)) = false := decide_eq_false (by unfold textMax at he; omega)
        have k4 : decide (65536 < E.length) = false := decide_eq_false (by unfold textMax at he; omega)
        clear he
        go_enter Tryz.func121, Tryz.ntmps121
        go_wp2_with (first
          | (go_at_call 124; (with_reducible refine (HVA _ HV.out).out.mono ?_); rintro e w1 ⟨rfl, hb1⟩; have H1 := Lib.hid (HV.out.next HS.out hb1); obtain ⟨x0, x1, x2, x3⟩ := H1.out.all; clear hb1)
          | (go_at_call 136; (with_reducible refine (HDE _ H1.out).out.mono ?_); rintro e w2 ⟨rfl, hb2⟩; have H2 := Lib.hid (H1.out.next HS.out hb2); obtain ⟨y0, y1, y2, y3⟩ := H2.out.all; clear hb2)
          | (go_at_call 137; (with_reducible refine (HWR2 _ H2.out).out.mono ?_); rintro e w3 ⟨rfl, hb3⟩; have H3 := Lib.hid (H2.out.next HS.out hb3); clear hb3))
        all_goals go_ret2
        all_goals exact ⟨rfl, H3.out.bel⟩
      · rw [if_neg he]
        have k3 : decide ((65536 : Int) < (E.length : Int)) = true := decide_eq_true (by unfold textMax at he; omega)
        have k4 : decide (65536 < E.length) = true := decide_eq_true (by unfold textMax at he; omega)
        clear he
        go_enter Tryz.func121, Tryz.ntmps121
        go_wp2_with (first
          | (go_at_call 124; (with_reducible refine (HVA _ HV.out).out.mono ?_); rintro e w1 ⟨rfl, hb1⟩; have H1 := Lib.hid (HV.out.next HS.out hb1); obtain ⟨x0, x1, x2, x3⟩ := H1.out.all; clear hb1)
          | (go_at_call 136; (with_reducible refine (HDE _ H1.out).out.mono ?_); rintro e w2 ⟨rfl, hb2⟩; have H2 := Lib.hid (H1.out.next HS.out hb2); obtain ⟨y0, y1, y2, y3⟩ := H2.out.all; clear hb2)
          | (go_at_call 137; (with_reducible refine (HWR2 _ H2.out).out.mono ?_); rintro e w3 ⟨rfl, hb3⟩; have H3 := Lib.hid (H2.out.next HS.out hb3); clear hb3))
        all_goals go_ret2
        all_goals exact ⟨rfl, H3.out.bel⟩
    · rw [if_neg hd]
      have k1 : decide ((32 : Int) < (D : Int)) = true := decide_eq_true (by unfold deepMax at hd; omega)
      have k2 : decide ((32 : Nat) < D) = true := decide_eq_true (by unfold deepMax at hd; omega)
      clear hd
      go_enter Tryz.func121, Tryz.ntmps121
      go_wp2_with (first
        | (go_at_call 124; (with_reducible refine (HVA _ HV.out).out.mono ?_); rintro e w1 ⟨rfl, hb1⟩; have H1 := Lib.hid (HV.out.next HS.out hb1); obtain ⟨x0, x1, x2, x3⟩ := H1.out.all; clear hb1)
        | (go_at_call 136; (with_reducible refine (HDE _ H1.out).out.mono ?_); rintro e w2 ⟨rfl, hb2⟩; have H2 := Lib.hid (H1.out.next HS.out hb2); obtain ⟨y0, y1, y2, y3⟩ := H2.out.all; clear hb2))
      all_goals go_ret2
      all_goals exact ⟨rfl, H2.out.bel⟩
  · have hf : okOne (k, n, t, l) = false := by cases h : okOne (k, n, t, l) with
      | true => exact absurd h hok
      | false => rfl
    rw [hf] at HVA
    rw [if_neg hok]
    clear HWR hok hf
    go_enter Tryz.func121, Tryz.ntmps121
    go_wp2_with (first
      | (go_at_call 124; (with_reducible refine (HVA _ HV.out).out.mono ?_); rintro e w1 ⟨rfl, hb1⟩; have H1 := Lib.hid (HV.out.next HS.out hb1); obtain ⟨x0, x1, x2, x3⟩ := H1.out.all; clear hb1))
    all_goals go_ret2
    all_goals exact ⟨rfl, H1.out.bel⟩
end Go.Proofs.YtjhlddlocpkhkaaGreat
