/- Words for memory, copied from the kit's page extra-words: a slice that reads as a list; append onto a row of the call's own. Then bytes: a row of the call's own, with room and without. Words for memory: rows of strings, slices of strings that came in or are the call's own. -/
import Derived.Test.YtjhlddlocpkhkaaGreatTwBW
import Derived.Below
import Derived.Laws.OwnMore
import Derived.Deep.AppendLies
import Derived.Deep.Draws
import Derived.Maps.AppendAt
import Derived.RegionTactic
import Derived.OwnWalk
import Derived.ArgAppend
import Derived.Laws.CopyOwn
import Derived.Lib.LazyBuf
namespace Go.Proofs.YtjhlddlocpkhkaaGreat
open Go.RowKit
set_option maxRecDepth 100000
set_option linter.unusedVariables false
theorem block_of_add (a : Addr) (n : Nat) : (a.add n).block = a.block := by unfold Addr.add; split <;> rfl
theorem add_of_add (a : Addr) (i j : Nat) : (a.add i).add j = a.add (i + j) := by
  unfold Addr.add
  by_cases hi : i = 0 <;> by_cases hj : j = 0 <;> simp [hi, hj, Nat.add_assoc]
def Reads (w : World) (B size : Nat) (A : Option Addr) (n : Nat) (xs : List Value) : Prop :=
  xs.length = n * size ∧ (0 < n → ∃ ad, A = some ad ∧ ad.block < B ∧ ∀ j u, xs[j]? = some u → w.cell? (ad.add j) = some u)
section
variable {w w' : World} {B B' size n : Nat} {A : Option Addr} {xs : List Value}
theorem Reads.at_ {k : Nat} (h : Reads w B 1 A n xs) (hk : k < n) : ∃ ad u, A = some ad ∧ ad.block < B ∧ xs[k]? = some u ∧ w.cell? (ad.add k) = some u := by
  obtain ⟨ad, e, hb, hc⟩ := h.2 (by omega)
  have hl : k < xs.length := by have := h.1; omega
  exact ⟨ad, xs[k], e, hb, List.getElem?_eq_getElem hl, hc k _ (List.getElem?_eq_getElem hl)⟩
theorem Reads.keep (h : Reads w B size A n xs) (hk : ∀ p : Addr, p.block < B → w'.cell? p = w.cell? p) : Reads w' B size A n xs :=
  ⟨h.1, fun hn => by
    obtain ⟨ad, e, hb, hc⟩ := h.2 hn
    exact ⟨ad, e, hb, fun j u hu => (hk _ (by rw [block_of_add]; exact hb)).trans (hc j u hu)⟩⟩
theorem Reads.more (h : Reads w B size A n xs) (hB : B ≤ B') : Reads w B' size A n xs :=
  ⟨h.1, fun hn => by
    obtain ⟨ad, e, hb, hc⟩ := h.2 hn
    exact ⟨ad, e, by omega, hc⟩⟩
theorem Reads.below (h : Reads w B size A n xs) (hb : Below B w w') : Reads w' B size A n xs := h.keep fun _ hp => hb.cell hp
theorem Reads.drew (h : Reads w B size A n xs) : Reads w.drew B size A n xs := h
theorem Reads.drewN (h : Reads w B size A n xs) (k : Nat) : Reads (w.drewN k) B size A n xs := h
theorem Reads.alloc (h : Reads w B size A n xs) (hB : B ≤ w.heap.size) (o : Obj) : Reads (w.alloc o) B size A n xs := h.keep fun p hp => World.cell?_alloc_lt w o p (by omega)
theorem Reads.setCell (h : Reads w B size A n xs) {p : Addr} (hB : B ≤ p.block) (u : Value) : Reads (w.setCell p u) B size A n xs :=
  h.keep fun q hq => World.cell?_setCell_other w p q u (fun e => by subst e; omega)
theorem Reads.cut (h : Reads w B size A n xs) {k cap : Nat} (hk : k ≤ n) (hc : n ≤ cap) :
    Reads w B size (if cap = k then A else A.map (·.add (k * size))) (n - k) (xs.drop (k * size)) := by
  refine ⟨by rw [List.length_drop, h.1, Nat.sub_mul], fun hn => ?_⟩
  obtain ⟨ad, rfl, hb, hcell⟩ := h.2 (by omega)
  rw [if_neg (by omega)]
  refine ⟨ad.add (k * size), rfl, by rw [block_of_add]; exact hb, fun j u hu => ?_⟩
  rw [add_of_add]
  exact hcell _ u (by rw [← hu, List.getElem?_drop])
theorem Reads.of_own {base : Nat} {e : TypeId} {c : Nat} (h : w.ownsRow base e size (.slice A n c) n xs) : Reads w w.heap.size size A n xs := by
  refine ⟨h.1, fun hn => ?_⟩
  obtain ⟨g, cap, hv, _, hlt⟩ := h.form hn
  have hA : A = some ⟨g, 0, none⟩ := by injection hv
  subst hA
  exact ⟨_, rfl, hlt, h.cells (g := g) rfl⟩
end
section
variable {P : Program} (w : World)
theorem run_append_of_nil (base : Nat) (t ty e : TypeId) (i : TypeInfo) (size : Nat) (ht : P.underlying t = some (.slice e)) (hi : P.info? e = some i)
    (v : Value) (n : Nat) (xs : List Value) (hown : w.ownsRow base e size v n xs) (c : Nat) : (Builtin.append_ #[t, t] ty #[v, .slice none 0 c]).run P w = .ok v w := by
  rcases hown.2 with ⟨rfl, rfl⟩ | ⟨g, cap, cur, rfl, _, _, hnc, _⟩
  · simp [Builtin.append_, run_underlying ht, sizeOf, typeInfo, hi, Builtin.lenOf, Builtin.firstCells]
  · simp [Builtin.append_, run_underlying ht, sizeOf, typeInfo, hi, Builtin.lenOf, Builtin.firstCells, hnc, storeCells]
theorem run_append_any (base : Nat) (t ty e : TypeId) (i : TypeInfo) (z : Value) (size bytes : Nat) (ht : P.underlying t = some (.slice e)) (hi : P.info? e = some i) (hz : i.zero = some z)
    (hsize : i.size = size) (hby : i.bytes = bytes) (hzs : z.cells.size = size) (hsz : 0 < size)
    (v : Value) (n : Nat) (xs : List Value) (hown : w.ownsRow base e size v n xs)
    (B : Nat) (A : Option Addr) (m c : Nat) (news : List Value) (hr : Reads w B size A m news) (h1 : ∀ u ∈ news, u.oneCell' = true)
    (h63 : n + m ≤ maxLen) (hbytes : (n + m) * bytes ≤ 140737488355328) (hbase : base ≤ w.heap.size) :
    ∃ v' w', (Builtin.append_ #[t, t] ty #[v, .slice A m c]).run P w = .ok v' w' ∧ w'.ownsRow base e size v' (n + m) (xs ++ news) ∧ w.grownBy w' v.ownBlock ∧
      (v'.ownBlock = v.ownBlock ∨ v'.ownBlock = some w.heap.size) := by
  rcases A with _ | ad
  · have hm : m = 0 := by
      rcases Nat.eq_zero_or_pos m with h0 | h0
      · exact h0
      · obtain ⟨ad, h, _⟩ := hr.2 h0
        cases h
    subst hm
    have hn : news = [] := List.eq_nil_of_length_eq_zero (by simpa using hr.1)
    subst hn
    exact ⟨v, w, run_append_of_nil w base t ty e i size ht hi v n xs hown c, by simpa using hown, World.grownBy.refl w _, .inl rfl⟩
  · have hcells : ∀ j u, news[j]? = some u → w.cell? (ad.add j) = some u := by
      intro j u hu
      rcases Nat.eq_zero_or_pos m with h0 | h0
      · subst h0
        have hn : news = [] := List.eq_nil_of_length_eq_zero (by simpa using hr.1)
        subst hn
        simp at hu
      · obtain ⟨ad', h, _, hc⟩ := hr.2 h0
        injection h with h
        subst h
        exact hc j u hu
    obtain ⟨v', w', hrun, h2, h3, _, h5⟩ := run_append_own_at (P := P) w base t ty e i z size bytes ht hi hz hsize hby hzs hsz v n xs hown ad m c news hr.1 hcells h1 h63 hbytes hbase
    exact ⟨v', w', hrun, h2, h3, h5⟩
theorem wp_append_any {o : Oper} {a : Act} {K : Act → World → Prop} {Q : Exit → Act → World → Prop} (s x : Operand) (t : TypeId)
    (ho : o.op = .call { callee := .builtin .append, args := #[s, x], argTypes := #[t, t] })
    (base : Nat) (e : TypeId) (i : TypeInfo) (z : Value) (size bytes : Nat) (ht : P.underlying t = some (.slice e)) (hi : P.info? e = some i) (hz : i.zero = some z)
    (hsize : i.size = size) (hby : i.bytes = bytes) (hzs : z.cells.size = size) (hsz : 0 < size)
    (v : Value) (n : Nat) (xs : List Value) (hs : a.eval s = v) (hown : w.ownsRow base e size v n xs)
    (B : Nat) (A : Option Addr) (m c : Nat) (news : List Value) (hx : a.eval x = .slice A m c) (hr : Reads w B size A m news) (h1 : ∀ u ∈ news, u.oneCell' = true)
    (h63 : n + m ≤ maxLen) (hbytes : (n + m) * bytes ≤ 140737488355328) (hbase : base ≤ w.heap.size)
    (h : ∀ v' w', w'.ownsRow base e size v' (n + m) (xs ++ news) → w.grownBy w' v.ownBlock → (v'.ownBlock = v.ownBlock ∨ v'.ownBlock = some w.heap.size) → K (a.put o.dst v') w') : o.wp P a w K Q := by
  obtain ⟨v', w', hrun, h2, h3, h4⟩ := run_append_any (P := P) w base t o.type e i z size bytes ht hi hz hsize hby hzs hsz v n xs hown B A m c news hr h1 h63 hbytes hbase
  unfold Oper.wp execOp
  simp only [ho, resolve, invoke, builtin, Sem.run_bind, Sem.run_pure, Result.andThen_ok, List.map_toArray, List.map_cons, List.map_nil, hs, hx, hrun]
  exact h v' w' h2 h3 h4
theorem wpList_append_any {ops : Array Oper} {rest : List Oper} {o : Oper} {a : Act} {Q : Exit → Act → World → Prop} (hgd : o.guard = none) (s x : Operand) (t : TypeId)
    (ho : o.op = .call { callee := .builtin .append, args := #[s, x], argTypes := #[t, t] })
    (base : Nat) (e : TypeId) (i : TypeInfo) (z : Value) (size bytes : Nat) (ht : P.underlying t = some (.slice e)) (hi : P.info? e = some i) (hz : i.zero = some z)
    (hsize : i.size = size) (hby : i.bytes = bytes) (hzs : z.cells.size = size) (hsz : 0 < size)
    (v : Value) (n : Nat) (xs : List Value) (hs : a.eval s = v) (hown : w.ownsRow base e size v n xs)
    (B : Nat) (A : Option Addr) (m c : Nat) (news : List Value) (hx : a.eval x = .slice A m c) (hr : Reads w B size A m news) (h1 : ∀ u ∈ news, u.oneCell' = true)
    (h63 : n + m ≤ maxLen) (hbytes : (n + m) * bytes ≤ 140737488355328) (hbase : base ≤ w.heap.size)
    (h : ∀ v' w', w'.ownsRow base e size v' (n + m) (xs ++ news) → w.grownBy w' v.ownBlock → (v'.ownBlock = v.ownBlock ∨ v'.ownBlock = some w.heap.size) → wpList P ops Q rest (a.put o.dst v') w') : wpList P ops Q (o :: rest) a w :=
  wpList_plain hgd fun _ hK => wp_append_any w s x t ho base e i z size bytes ht hi hz hsize hby hzs hsz v n xs hs hown B A m c news hx hr h1 h63 hbytes hbase fun v' w' h2 h3 h4 => hK _ _ (h v' w' h2 h3 h4)
theorem step_append_any {ops : Array Oper} {o : Oper} {a : Act} {K : Act → World → Prop} {Q : Exit → Act → World → Prop} {E : Prop} (hgd : o.guard = none) (s x : Operand) (t : TypeId)
    (ho : o.op = .call { callee := .builtin .append, args := #[s, x], argTypes := #[t, t] })
    (base : Nat) (e : TypeId) (i : TypeInfo) (z : Value) (size bytes : Nat) (ht : P.underlying t = some (.slice e)) (hi : P.info? e = some i) (hz : i.zero = some z)
    (hsize : i.size = size) (hby : i.bytes = bytes) (hzs : z.cells.size = size) (hsz : 0 < size)
    (v : Value) (n : Nat) (xs : List Value) (hs : a.eval s = v) (hown : w.ownsRow base e size v n xs)
    (B : Nat) (A : Option Addr) (m c : Nat) (news : List Value) (hx : a.eval x = .slice A m c) (hr : Reads w B size A m news) (h1 : ∀ u ∈ news, u.oneCell' = true)
    (h63 : n + m ≤ maxLen) (hbytes : (n + m) * bytes ≤ 140737488355328) (hbase : base ≤ w.heap.size)
    (h : ∀ v' w', w'.ownsRow base e size v' (n + m) (xs ++ news) → w.grownBy w' v.ownBlock → (v'.ownBlock = v.ownBlock ∨ v'.ownBlock = some w.heap.size) → K (a.put o.dst v') w') :
    if Region.wanted o (yielded ops a.tmps) = true then Oper.wp P o a w K Q else E := by
  have hw : Region.wanted o (yielded ops a.tmps) = true := by simp [Region.wanted, hgd]
  rw [if_pos hw]
  exact wp_append_any w s x t ho base e i z size bytes ht hi hz hsize hby hzs hsz v n xs hs hown B A m c news hx hr h1 h63 hbytes hbase h
end
def cells8 (L : List UInt8) : List Value := L.map fun b => Value.int .u8 b.toNat
theorem cells8_one (L : List UInt8) : ∀ v ∈ cells8 L, v.oneCell' = true := by
  intro v hv
  obtain ⟨n, _, rfl⟩ := List.mem_map.mp hv
  rfl
theorem cells8_len (L : List UInt8) : (cells8 L).length = L.length := by simp [cells8]
/-- A row of bytes of the call's own. -/
def OwnB (w : World) (base : Nat) (v : Value) (n : Nat) (L : List UInt8) : Prop := L.length = n ∧ w.ownsRow base 5 1 v n (cells8 L)
theorem OwnB.nil_ (w : World) (base : Nat) : OwnB w base (.slice none 0 0) 0 [] := ⟨rfl, World.ownsRow_nil w base _ 1⟩
theorem OwnB.form {w : World} {base : Nat} {v : Value} {n : Nat} {L : List UInt8} (h : OwnB w base v n L) (hz : base ≤ w.heap.size) :
    (v = .slice none 0 0 ∧ n = 0) ∨ ∃ g c, v = .slice (some ⟨g, 0, none⟩) n c ∧ base ≤ g ∧ g < w.heap.size ∧ n ≤ c ∧ Row w g 0 L := by
  obtain ⟨hn, hr⟩ := h
  rcases hr.2 with h | ⟨g, cap, cur, rfl, hb, hg, hc, _⟩
  · exact .inl h
  · refine .inr ⟨g, cap, rfl, hb, (Array.getElem?_eq_some_iff.1 hg).1, hc, fun j hj => ?_⟩
    have := hr.cells (g := g) rfl j (.int .u8 (L.getD j 0).toNat) (by unfold cells8; rw [List.getElem?_map, getD_lt hj, List.getElem?_eq_getElem hj]; rfl)
    rw [addr_add] at this
    exact this
theorem Row.reads {w : World} {g o : Nat} {L : List UInt8} (h : Row w g o L) (hg : g < w.heap.size) {n : Nat} (hn : L.length = n) : Reads w w.heap.size 1 (some ⟨g, o, none⟩) n (cells8 L) := by
  refine ⟨by rw [cells8_len]; omega, fun _ => ⟨_, rfl, hg, fun j u hu => ?_⟩⟩
  unfold cells8 at hu
  rw [List.getElem?_map, Option.map_eq_some_iff] at hu
  obtain ⟨x, hx, rfl⟩ := hu
  have hj := (List.getElem?_eq_some_iff.1 hx).1
  rw [addr_add, h j hj, getD_lt hj, (List.getElem?_eq_some_iff.1 hx).2]
theorem u8_infoE : ∃ i : TypeInfo, Tryz.prog.info? 5 = some i ∧ i.zero = some (.int .u8 0) ∧ i.size = 1 ∧ i.bytes = 1 := by
  obtain ⟨i, hi, hz⟩ := Option.map_eq_some_iff.1 u8_info
  simp only [Prod.mk.injEq] at hz
  exact ⟨i, hi, hz.1, hz.2.1, hz.2.2⟩
theorem below_grown {B : Nat} {w w' : World} {row : Option Nat} (hg : w.grownBy w' row) (hB : B ≤ w.heap.size) (hr : ∀ g, row = some g → B ≤ g) : Below B w w' :=
  ⟨hg.os, hg.tape, hg.output, hg.size, fun k hk => hg.block k (by omega) (fun e => by have := hr _ e.symm; omega)⟩
/-- append of bytes that lie in a row, onto a row of the call's own. -/
theorem wpList_append_own {w : World} {ops : Array Oper} {rest : List Oper} {o : Oper} {a : Act} {Q : Exit → Act → World → Prop} (hgd : o.guard = none) (s x : Operand)
    (ho : o.op = .call { callee := .builtin .append, args := #[s, x], argTypes := #[183, 183] })
    (base : Nat) (v : Value) (n : Nat) (L : List UInt8) (hs : a.eval s = v) (hown : OwnB w base v n L)
    (g2 o2 m c : Nat) (N : List UInt8) (hx : a.eval x = .slice (some ⟨g2, o2, none⟩) m c) (hN : Row w g2 o2 N) (hg2 : g2 < w.heap.size) (hm : N.length = m) (hsz : n + m ≤ 1000000) (hbase : base ≤ w.heap.size)
    (h : ∀ v' w', OwnB w' base v' (n + m) (L ++ N) → Below base w w' → wpList Tryz.prog ops Q rest (a.put o.dst v') w') : wpList Tryz.prog ops Q (o :: rest) a w := by
  obtain ⟨i, hi, hz, hs1, hb1⟩ := u8_infoE
  refine wpList_append_any w hgd s x 183 ho base 5 i (.int .u8 0) 1 1 Tryz.underlying183 hi hz hs1 hb1 rfl (by decide) v n (cells8 L) hs hown.2 w.heap.size (some ⟨g2, o2, none⟩) m c (cells8 N) hx (hN.reads hg2 hm) (cells8_one N) (by unfold maxLen; omega) (by omega) hbase ?_
  intro v' w' h2 h3 h4
  refine h v' w' ⟨by rw [List.length_append, hown.1, hm], ?_⟩ (below_grown h3 hbase ?_)
  · have : cells8 (L ++ N) = cells8 L ++ cells8 N := by simp [cells8]
    rw [this]; exact h2
  · intro g hg
    exact (hown.2.lt g hg).1
theorem Below.cells_ {B b : Nat} {a : World} (hb : B ≤ b) : ∀ (vs : List Value) (o : Nat) (w : World), Below B a w → Below B a (w.setCells b o vs) := by
  intro vs
  induction vs with
  | nil => intro o w h; exact h
  | cons v vs ih => intro o w h; exact ih (o + 1) _ (h.setCell hb v)
theorem Bk.setCells {g : Nat} {T : TypeId} : ∀ (vs : List UInt8) (A B D : List UInt8) (w : World), Bk w g T (A ++ B ++ D) → B.length = vs.length → Bk (w.setCells g A.length (cells8 vs)) g T (A ++ vs ++ D) := by
  intro vs
  induction vs with
  | nil =>
    intro A B D w h hl
    have : B = [] := List.length_eq_zero_iff.mp hl
    subst this
    exact h
  | cons v vs ih =>
    intro A B D w h hl
    cases B with
    | nil => cases hl
    | cons b B =>
      have h2 := h.set A.length v
      rw [List.append_assoc, List.set_append_right _ _ (Nat.le_refl _), Nat.sub_self, List.cons_append, List.set_cons_zero] at h2
      have h3 := ih (A ++ [v]) B D (w.setCell ⟨g, A.length, none⟩ (.int .u8 v.toNat)) (by simpa using h2) (by simpa using hl)
      rw [List.length_append] at h3
      show Bk ((w.setCell ⟨g, A.length, none⟩ (.int .u8 v.toNat)).setCells g (A.length + 1) (cells8 vs)) g T _
      simpa using h3
/-- Block g is a row of C bytes: M, and then zeros. -/
def Mb (w : World) (g C : Nat) (M : List UInt8) : Prop := M.length ≤ C ∧ Bk w g 5 (M ++ List.replicate (C - M.length) 0)
theorem Mb.put {w : World} {g C : Nat} {M : List UInt8} (h : Mb w g C M) (N : List UInt8) (hr : M.length + N.length ≤ C) : Mb (w.setCells g M.length (cells8 N)) g C (M ++ N) := by
  refine ⟨by rw [List.length_append]; exact hr, ?_⟩
  have e : List.replicate (C - M.length) (0 : UInt8) = List.replicate N.length 0 ++ List.replicate (C - (M ++ N).length) 0 := by
    rw [List.replicate_append_replicate, List.length_append]
    congr 1
    omega
  have h2 := h.2
  rw [e, ← List.append_assoc] at h2
  exact Bk.setCells N M (List.replicate N.length 0) _ w h2 (by simp)
theorem Mb.alloc {w : World} {g C : Nat} {M : List UInt8} (h : Mb w g C M) (o : Obj) : Mb (w.alloc o) g C M := ⟨h.1, h.2.alloc o⟩
theorem Mb.below {w w' : World} {g C B : Nat} {M : List UInt8} (h : Mb w g C M) (hb : Below B w w') (hg : g < B) : Mb w' g C M := ⟨h.1, h.2.below hb hg⟩
theorem Mb.row {w : World} {g C : Nat} {M : List UInt8} (h : Mb w g C M) : Row w g 0 M := by
  intro k hk
  rw [h.2.row k (by rw [List.length_append]; omega), List.getD_eq_getElem?_getD, List.getD_eq_getElem?_getD, List.getElem?_append_left hk]
theorem Mb.lt {w : World} {g C : Nat} {M : List UInt8} (h : Mb w g C M) : g < w.heap.size := h.2.lt
theorem Mb.spare {w : World} {g C : Nat} {M : List UInt8} (h : Mb w g C M) {k : Nat} (hk : k < C) : (w.cell? ⟨g, k, none⟩).isSome = true ∧ w.frozen? ⟨g, k, none⟩ = false := by
  have h1 := h.1
  rw [h.2.cell (k := k) (by rw [List.length_append, List.length_replicate]; omega), h.2.free]
  exact ⟨rfl, rfl⟩
/-- append of bytes that lie in a row, where there is room. -/
theorem wpList_append_mb {w : World} {ops : Array Oper} {rest : List Oper} {o : Oper} {a : Act} {Q : Exit → Act → World → Prop} (hgd : o.guard = none) (s x : Operand)
    (ho : o.op = .call { callee := .builtin .append, args := #[s, x], argTypes := #[183, 183] })
    (g n C : Nat) (M : List UInt8) (hs : a.eval s = .slice (some ⟨g, 0, none⟩) n C) (hM : Mb w g C M) (hn : M.length = n)
    (g2 o2 m c : Nat) (N : List UInt8) (hx : a.eval x = .slice (some ⟨g2, o2, none⟩) m c) (hN : Row w g2 o2 N) (hm : N.length = m) (hroom : n + m ≤ C)
    (h : ∀ w', Mb w' g C (M ++ N) → (∀ B w0, B ≤ g → Below B w0 w → Below B w0 w') → wpList Tryz.prog ops Q rest (a.put o.dst (.slice (some ⟨g, 0, none⟩) (n + m) C)) w') : wpList Tryz.prog ops Q (o :: rest) a w := by
  obtain ⟨i, hi, hz, hs1, hb1⟩ := u8_infoE
  refine wpList_plain hgd fun K hK => ?_
  have hnews : ∀ j u, (cells8 N)[j]? = some u → w.cell? ((⟨g2, o2, none⟩ : Addr).add j) = some u := by
    intro j u hu
    unfold cells8 at hu
    rw [List.getElem?_map, Option.map_eq_some_iff] at hu
    obtain ⟨x, hx, rfl⟩ := hu
    have hj := (List.getElem?_eq_some_iff.1 hx).1
    rw [addr_add, hN j hj, getD_lt hj, (List.getElem?_eq_some_iff.1 hx).2]
  have hrun := run_append_room_cells (P := Tryz.prog) w 183 o.type 5 i Tryz.underlying183 hi g 0 n C ⟨g2, o2, none⟩ m c (cells8 N) (by rw [cells8_len, hs1]; omega) hnews (cells8_one N) hroom
    (fun j hj => by rw [cells8_len] at hj; rw [hs1]; exact (hM.spare (by omega)).1) (fun j hj => by rw [cells8_len] at hj; rw [hs1]; exact (hM.spare (by omega)).2)
  have e0 : 0 + n * i.size = M.length := by rw [hs1, hn]; omega
  rw [e0] at hrun
  unfold Oper.wp
  simp [execOp, ho, resolve, invoke, builtin, hs, hx, hrun, Result.andThen]
  exact hK _ _ (h _ (hM.put N (by omega)) fun B w0 hB hb => Below.cells_ hB _ _ _ hb)
/-- 'make([]byte, n, c)'. -/
theorem make_bytes_cap (n c : Nat) (hn : n ≤ c) (h : c ≤ 1000000) (w : World) : (Instr.makeSlice 183 (.int .i64 (n : Int)) (.int .i64 (c : Int))).run Tryz.prog w =
    .ok (.slice (some ⟨w.heap.size, 0, none⟩) n c) (w.alloc (.cells (cellsOf (List.replicate c 0)) 5)) := by
  obtain ⟨i, hi, hz, hs1, hb1⟩ := u8_infoE
  have hr := run_make (P := Tryz.prog) w 183 5 i (.int .u8 0) Tryz.underlying183 hi hz .i64 .i64 n c (by omega) (by omega) (by rw [hb1]; omega) (by omega)
  rw [← madeCells_zeros]
  simp only [Int.toNat_natCast, hs1, Nat.mul_one] at hr
  exact hr
theorem heap_cells_far (k b : Nat) (hk : k ≠ b) : ∀ (vs : List Value) (o : Nat) (w : World), (w.setCells b o vs).heap[k]? = w.heap[k]? := by
  intro vs
  induction vs with
  | nil => intro o w; rfl
  | cons v vs ih => intro o w; exact (ih (o + 1) _).trans (Below.heap_setCell w ⟨b, o, none⟩ v k hk)
theorem Mb.cells {w : World} {g C b : Nat} {M : List UInt8} (h : Mb w g C M) (hb : g ≠ b) (vs : List Value) (o : Nat) : Mb (w.setCells b o vs) g C M := ⟨h.1, (heap_cells_far g b hb vs o w).trans h.2⟩
theorem Row.take {w : World} {g o : Nat} {L : List UInt8} (h : Row w g o L) (k : Nat) : Row w g o (L.take k) := by
  intro j hj
  rw [List.length_take] at hj
  rw [h j (by omega), List.getD_eq_getElem?_getD, List.getD_eq_getElem?_getD, List.getElem?_take_of_lt (by omega)]
end Go.Proofs.YtjhlddlocpkhkaaGreat
namespace Go.Proofs.YtjhlddlocpkhkaaGreat
open Go.RowKit
set_option maxRecDepth 100000
set_option linter.unusedVariables false
theorem nat_info : (Tryz.prog.info? 22).map (fun i => (i.zero, i.size, i.bytes)) = some (some (.string ByteArray.empty), 1, 16) := by kernel_rfl
/-- The strings that lie in a block from its beginning on. -/
def SRow (w : World) (g : Nat) (ls : List ByteArray) : Prop := ∀ j, j < ls.length → w.cell? ⟨g, j, none⟩ = some (.string (ls.getD j ByteArray.empty))
theorem sgetD_lt {L : List ByteArray} {k : Nat} (h : k < L.length) : L.getD k ByteArray.empty = L[k] := by simp [List.getD, h]
theorem SRow.new (w : World) (T : TypeId) (ls : List ByteArray) : SRow (w.alloc (.cells (ls.map Value.string).toArray T)) w.heap.size ls := by
  intro j hj
  have h := heap_alloc_new w (.cells (ls.map Value.string).toArray T)
  simp only [World.cell?, h]
  simp [List.getD, hj]
theorem SRow.alloc {w : World} {g : Nat} {ls : List ByteArray} (h : SRow w g ls) (hg : g < w.heap.size) (o : Obj) : SRow (w.alloc o) g ls :=
  fun j hj => (((Below.refl w.heap.size w).alloc (Nat.le_refl _) o).cell (p := ⟨g, j, none⟩) hg).trans (h j hj)
/-- A slice of strings: it lies in a block below b (or is empty) and reads as the list. -/
def SLs (w : World) (b : Nat) (A : Option Addr) (ls : List ByteArray) : Prop :=
  ls ≠ [] → ∃ ad, A = some ad ∧ ad.block < b ∧ ∀ j, j < ls.length → w.cell? (ad.add j) = some (.string (ls.getD j ByteArray.empty))
section
variable {w w' : World} {b b' : Nat} {A : Option Addr} {ls : List ByteArray}
theorem SLs.keep (h : SLs w b A ls) (hk : ∀ p : Addr, p.block < b → w'.cell? p = w.cell? p) : SLs w' b A ls := fun hne => by
  obtain ⟨ad, e, hb, hc⟩ := h hne
  refine ⟨ad, e, hb, fun j hj => (hk _ ?_).trans (hc j hj)⟩
  unfold Addr.add
  split <;> exact hb
theorem SLs.more (h : SLs w b A ls) (hb : b ≤ b') : SLs w b' A ls := fun hne => by
  obtain ⟨ad, e, h1, hc⟩ := h hne
  exact ⟨ad, e, Nat.lt_of_lt_of_le h1 hb, hc⟩
theorem SLs.below (h : SLs w b A ls) (hb : Below b w w') : SLs w' b A ls := h.keep fun _ hp => hb.cell hp
theorem SLs.next (h : SLs w b A ls) {B : Nat} (hB : b ≤ B) (hb : Below B w w') : SLs w' b A ls := h.keep fun _ hp => hb.cell (Nat.lt_of_lt_of_le hp hB)
theorem SLs.at_ (h : SLs w b A ls) {k : Nat} (hk : k < ls.length) : ∃ ad, A = some ad ∧ w.cell? (ad.add k) = some (.string (ls.getD k ByteArray.empty)) := by
  obtain ⟨ad, e, _, hc⟩ := h (by intro e; rw [e] at hk; simp at hk)
  exact ⟨ad, e, hc k hk⟩
theorem SLs.of_row {g : Nat} (h : SRow w g ls) (hg : g < b) : SLs w b (some ⟨g, 0, none⟩) ls := fun _ => by
  refine ⟨_, rfl, hg, fun j hj => ?_⟩
  have := h j hj
  unfold Addr.add
  split
  · rename_i h0; subst h0; exact this
  · simpa using this
theorem SLs.nil_ : SLs w b none [] := fun h => absurd rfl h
end
/-- A row of strings of the call's own. -/
def OwnS (w : World) (base : Nat) (v : Value) (n : Nat) (ls : List ByteArray) : Prop := ls.length = n ∧ w.ownsRow base 22 1 v n (ls.map Value.string)
theorem SLs.reads {w : World} {b : Nat} {A : Option Addr} {ls : List ByteArray} (h : SLs w b A ls) {n : Nat} (hn : ls.length = n) : Reads w b 1 A n (ls.map Value.string) := by
  refine ⟨by simp [hn], fun h0 => ?_⟩
  obtain ⟨ad, e, hb, hc⟩ := h (by intro e; rw [e] at hn; simp at hn; omega)
  refine ⟨ad, e, hb, fun j u hu => ?_⟩
  rw [List.getElem?_map, Option.map_eq_some_iff] at hu
  obtain ⟨x, hx, rfl⟩ := hu
  have hj := (List.getElem?_eq_some_iff.1 hx).1
  rw [hc j hj, sgetD_lt hj, (List.getElem?_eq_some_iff.1 hx).2]
theorem OwnS.nil_ (w : World) (base : Nat) : OwnS w base (.slice none 0 0) 0 [] := ⟨rfl, World.ownsRow_nil w base _ 1⟩
theorem OwnS.form {w : World} {base : Nat} {v : Value} {n : Nat} {ls : List ByteArray} (h : OwnS w base v n ls) (hz : base ≤ w.heap.size) : ∃ A c, v = .slice A n c ∧ SLs w w.heap.size A ls := by
  obtain ⟨hn, hr⟩ := h
  rcases hr.2 with ⟨rfl, rfl⟩ | ⟨g, cap, cur, rfl, hb, hg, _⟩
  · exact ⟨none, 0, rfl, by rw [List.eq_nil_of_length_eq_zero hn]; exact SLs.nil_⟩
  · refine ⟨some ⟨g, 0, none⟩, cap, rfl, fun _ => ⟨_, rfl, (Array.getElem?_eq_some_iff.1 hg).1, fun j hj => ?_⟩⟩
    refine hr.cells (g := g) rfl j _ ?_
    rw [List.getElem?_map, sgetD_lt hj, List.getElem?_eq_getElem hj]
    rfl
theorem OwnS.kept {w w' : World} {base : Nat} {v : Value} {n B : Nat} {ls : List ByteArray} (h : OwnS w base v n ls) (hb : Below w.heap.size w w') : OwnS w' base v n ls := by
  refine ⟨h.1, h.2.1, ?_⟩
  rcases h.2.2 with hn | ⟨g, cap, cur, rfl, h1, hg, rest⟩
  · exact .inl hn
  · exact .inr ⟨g, cap, cur, rfl, h1, (hb.block g (Array.getElem?_eq_some_iff.1 hg).1).trans hg, rest⟩
/-- A row that was just made. -/
theorem SLs.new (w : World) (T : TypeId) (ls : List ByteArray) (b : Nat) (hb : w.heap.size < b) : SLs (w.alloc (.cells (ls.map Value.string).toArray T)) b (some ⟨w.heap.size, 0, none⟩) ls := SLs.of_row (SRow.new w T ls) hb
theorem SLs.to {W w' : World} {A : Option Addr} {ls : List ByteArray} (h : SLs W W.heap.size A ls) (hb : Below W.heap.size W w') : SLs w' w'.heap.size A ls := (h.below hb).more hb.size
theorem SLs.drew {W : World} {b : Nat} {A : Option Addr} {ls : List ByteArray} (h : SLs W b A ls) : SLs W.drew b A ls := h
end Go.Proofs.YtjhlddlocpkhkaaGreat
