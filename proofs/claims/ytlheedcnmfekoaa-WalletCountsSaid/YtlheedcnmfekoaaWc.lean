/- Encoding: Nat, Text, copied, List. -/
import Derived.Test.YtlheedcnmfekoaaWb
import Derived.Deep.RegionLaw
import Derived.Deep.RegionHeld3
namespace Go.Proofs.Ytlheedcnmfekoaa
open Go.RowKit
set_option maxRecDepth 100000
set_option linter.unusedVariables false
set_option maxHeartbeats 4000000

theorem enc_Nat (a : ByteArray) (w : World) : Calls Try.prog 71 #[.string a] w fun e w' => e = .returned (.agg #[.int .i64 0, .string a, .string ⟨#[]⟩, .slice none 0 0]) ∧ Below w.heap.size w w' := by
  go_enter Try.func71, Try.ntmps71
  go_wp2
  refine bodyPost_ret (v := .agg #[.int .i64 0, .string a, .string ⟨#[]⟩, .slice none 0 0]) (by simp [results, Try.results71, go_sem]) rfl ?_
  exact ⟨rfl, (Below.refl _ _).alloc (Nat.le_refl _) _⟩
theorem enc_Text (a : ByteArray) (w : World) : Calls Try.prog 40 #[.string a] w fun e w' => e = .returned (.agg #[.int .i64 1, .string ⟨#[]⟩, .string a, .slice none 0 0]) ∧ Below w.heap.size w w' := by
  go_enter Try.func40, Try.ntmps40
  go_wp2
  refine bodyPost_ret (v := .agg #[.int .i64 1, .string ⟨#[]⟩, .string a, .slice none 0 0]) (by simp [results, Try.results40, go_sem]) rfl ?_
  exact ⟨rfl, (Below.refl _ _).alloc (Nat.le_refl _) _⟩
theorem Its.len_size (l : Its) : l.len ≤ l.size := by
  induction l with
  | nil => exact Nat.le_refl _
  | cons k n t l r _ ih => simp only [Its.len, Its.size]; omega
/-- An item that a call hands back: its lists lie in memory that the call made. -/
def ItOut (y : Its.One) (w : World) (e : Ending) (w' : World) : Prop :=
  ∃ A c, e = .returned (.agg #[.int .i64 y.1, .string y.2.1, .string y.2.2.1, .slice A y.2.2.2.len c]) ∧ SlI w' (fun g => w.heap.size ≤ g ∧ g < w'.heap.size) A y.2.2.2 ∧ Below w.heap.size w w'
/-- append of one new item in a drawn region. -/
theorem step_append_I {ops : Array Oper} {o : Oper} {a : Act} {K : Act → World → Prop} {Q : Exit → Act → World → Prop} {E : Prop} {w : World} (hgd : o.guard = none) (s x : Operand)
    (ho : o.op = .call { callee := .builtin .append, args := #[s, x], argTypes := #[60, 60] })
    (base : Nat) (v : Value) (l : Its) (hs : a.eval s = v) (hown : OwnI w base v l) (y : Its.One) (A : Option Addr) (c g c' : Nat) (hx : a.eval x = .slice (some ⟨g, 0, none⟩) 1 c')
    (hg : w.heap[g]? = some (.cells (cellsI y A c).toArray 69 (0, 0))) (hy : SlI w (fun g => base ≤ g ∧ g < w.heap.size ∧ v.ownBlock ≠ some g) A y.2.2.2) (hsz : l.len ≤ 100000) (hbase : base ≤ w.heap.size)
    (h : ∀ v' w', OwnI w' base v' (l.app (Its.one y)) → w.grownBy w' v.ownBlock → K (a.put o.dst v') w') : if Region.wanted o (yielded ops a.tmps) = true then Oper.wp Try.prog o a w K Q else E := by
  obtain ⟨i, hi, hz, hs1, hb1⟩ := itemE
  have hbk := hown.blockOf
  obtain ⟨L, h1, h2⟩ := hown
  have hlt : g < w.heap.size := (Array.getElem?_eq_some_iff.1 hg).1
  have hr : Reads w w.heap.size 4 (some ⟨g, 0, none⟩) 1 (cellsI y A c) := ⟨rfl, fun _ => ⟨_, rfl, hlt, fun j u hu => by
    rw [addr_add, Nat.zero_add]
    have := cell_of_row w g j _ _ _ hg
    rw [this, ← hu]
    simp⟩⟩
  have hone : ∀ u ∈ cellsI y A c, u.oneCell' = true := fun u hu => by
    simp only [cellsI, List.mem_cons, List.not_mem_nil, or_false] at hu
    rcases hu with rfl | rfl | rfl | rfl <;> rfl
  refine step_append_any w hgd s x 60 ho base 69 i (.agg #[.int .i64 0, .string ByteArray.empty, .string ByteArray.empty, .slice none 0 0]) 4 64 Try.underlying60 hi hz hs1 hb1 rfl (by decide) v l.len L hs h1 w.heap.size (some ⟨g, 0, none⟩) 1 c' (cellsI y A c) hx hr hone (by unfold maxLen; omega) (by omega) hbase ?_
  intro v' w' g1 g2 g3
  have hkeep : ∀ p : Addr, (base ≤ p.block ∧ p.block < w.heap.size ∧ v.ownBlock ≠ some p.block) → w'.cell? p = w.cell? p := fun p hp => World.cell?_of_block (g2.block p.block hp.2.1 (fun e => hp.2.2 e.symm))
  have hset : ∀ k, (base ≤ k ∧ k < w.heap.size ∧ v.ownBlock ≠ some k) → (base ≤ k ∧ k < w'.heap.size ∧ v'.ownBlock ≠ some k) := fun k hk => by
    refine ⟨hk.1, Nat.lt_of_lt_of_le hk.2.1 g2.size, ?_⟩
    rcases g3 with e | e
    · rw [e]; exact hk.2.2
    · rw [e]; intro e2; injection e2 with e2; have := hk.2.1; omega
  refine h v' w' ⟨L ++ cellsI y A c, by rw [Its.len_app]; exact g1, ((h2.keep hkeep).mono hset).app (RelI.single ((hy.keep hkeep).mono hset))⟩ g2
/-- The memory of a copy under way: the result, the new item, its row, and the row that is copied. -/
structure CpAt (w : World) (S : Nat → Prop) (k : Int) (n t : ByteArray) (A : Option Addr) (l : Its) (v : Value) (d : Its) (br bo : Nat) (wr : World) : Prop where
  res : wr.heap[br]? = some (.cells #[.int .i64 0, .string ⟨#[]⟩, .string ⟨#[]⟩, .slice none 0 0] 69 (0, 0))
  out : wr.heap[bo]? = some (.cells #[.int .i64 k, .string n, .string t, v] 69 (0, 0))
  own : OwnI wr (bo + 1) v d
  src : SlI wr S A l
  bel : Below w.heap.size w wr
  lo : w.heap.size ≤ br
  lt : br < bo
  size : bo < wr.heap.size
section
variable {w wr w' : World} {S : Nat → Prop} {k : Int} {n t : ByteArray} {A : Option Addr} {l d : Its} {v : Value} {br bo : Nat}
theorem CpAt.next (h : CpAt w S k n t A l v d br bo wr) (hS : ∀ g, S g → g < w.heap.size) (hb : Below wr.heap.size wr w') : CpAt w S k n t A l v d br bo w' :=
  ⟨(hb.block _ (Nat.lt_trans h.lt h.size)).trans h.res, (hb.block _ h.size).trans h.out, h.own.kept hb, h.src.below hb (fun g hg => Nat.lt_of_lt_of_le (hS g hg) h.bel.size), below2 h.bel hb, h.lo, h.lt, Nat.lt_of_lt_of_le h.size hb.size⟩
theorem CpAt.alloc (h : CpAt w S k n t A l v d br bo wr) (hS : ∀ g, S g → g < w.heap.size) (o : Obj) : CpAt w S k n t A l v d br bo (wr.alloc o) := h.next hS ((Below.refl _ _).alloc (Nat.le_refl _) _)
theorem CpAt.drew (h : CpAt w S k n t A l v d br bo wr) (hS : ∀ g, S g → g < w.heap.size) : CpAt w S k n t A l v d br bo wr.drew := h.next hS (Below.refl _ _).drew
theorem CpAt.put {v5 : Value} {y : Its.One} (h : CpAt w S k n t A l v d br bo wr) (hS : ∀ g, S g → g < w.heap.size) (hown : OwnI w' (bo + 1) v5 (d.app (Its.one y))) (hg : wr.grownBy w' v.ownBlock) :
    CpAt w S k n t A l v5 (d.app (Its.one y)) br bo (w'.setCell ⟨bo, 3, none⟩ v5) := by
  have hbk := h.own.blockOf
  have hne : ∀ k, k < bo + 1 → k < wr.heap.size → w'.heap[k]? = wr.heap[k]? := fun k hk hs => hg.block k hs (fun e => by have := (hbk k e.symm).1; omega)
  have hout := (hne bo (by omega) h.size).trans h.out
  have hb : Below w.heap.size w w' := h.bel.grown hg h.bel.size (fun k hk => by have := (hbk k hk).1; have := h.lo; have := h.lt; omega)
  have hcell : ∀ p : Addr, p.block ≠ bo → (w'.setCell ⟨bo, 3, none⟩ v5).cell? p = w'.cell? p := fun p hp => World.cell?_setCell_other _ _ _ _ (fun e => hp (by have := congrArg Addr.block e; first | exact this | exact this.symm))
  have hlt := h.lt
  have hlo := h.lo
  refine ⟨?_, ?_, ?_, ?_, hb.setCell (p := ⟨bo, 3, none⟩) (Nat.le_trans hlo (Nat.le_of_lt hlt)) _, hlo, hlt, by rw [World.size_setCell]; exact Nat.lt_of_lt_of_le h.size hg.size⟩
  · exact (heap_setCell_other w' ⟨bo, 3, none⟩ br v5 (Nat.ne_of_lt hlt)).trans ((hne br (by omega) (Nat.lt_trans hlt h.size)).trans h.res)
  · rw [heap_setCell_same _ _ 3 _ _ v5 hout]
    rfl
  · have hb5 := hown.blockOf
    obtain ⟨L, h1, h2⟩ := hown
    exact ⟨L, ownsRow_setCell_below h1 (a := ⟨bo, 3, none⟩) (Nat.lt_succ_self _) v5, (h2.keep fun p hp => hcell p (by have := hp.1; omega)).mono fun g hg => ⟨hg.1, by rw [World.size_setCell]; exact hg.2.1, hg.2.2⟩⟩
  · refine h.src.keep fun p hp => ?_
    have h1 := hS _ hp
    rw [hcell p (by omega)]
    exact World.cell?_of_block (hne p.block (by omega) (Nat.lt_of_lt_of_le h1 h.bel.size))
theorem CpAt.outBlk (h : CpAt w S k n t A l v d br bo wr) (hg : wr.grownBy w' v.ownBlock) : w'.heap[bo]? = some (.cells #[.int .i64 k, .string n, .string t, v] 69 (0, 0)) :=
  (hg.block bo h.size (fun e => by have := (h.own.blockOf bo e.symm).1; omega)).trans h.out
theorem CpAt.start {W1 : World} (hb : Below w.heap.size w W1) (hs : SlI w S A l) (hS : ∀ g, S g → g < w.heap.size) :
    CpAt w S k n t A l (.slice none 0 0) .nil W1.heap.size (W1.heap.size + 1) ((W1.alloc (.cells #[.int .i64 0, .string ⟨#[]⟩, .string ⟨#[]⟩, .slice none 0 0] 69)).alloc (.cells #[.int .i64 k, .string n, .string t, .slice none 0 0] 69)) := by
  obtain ⟨h1, h2⟩ := two_boxes W1 (.cells #[.int .i64 0, .string ⟨#[]⟩, .string ⟨#[]⟩, .slice none 0 0] 69) (.cells #[.int .i64 k, .string n, .string t, .slice none 0 0] 69)
  have hb2 : Below w.heap.size w ((W1.alloc (.cells #[.int .i64 0, .string ⟨#[]⟩, .string ⟨#[]⟩, .slice none 0 0] 69)).alloc (.cells #[.int .i64 k, .string n, .string t, .slice none 0 0] 69)) :=
    (hb.alloc hb.size _).alloc (by have := hb.size; simp; omega) _
  exact ⟨h1, h2, OwnI.nil_ _ _, hs.below hb2 hS, hb2, hb.size, Nat.lt_succ_self _, by simp⟩
/-- What the next item is laid beside. -/
theorem fresh_apart {W1 w5 : World} {A5 : Option Addr} {y : Its.One} (h : CpAt w S k n t A l v d br bo wr) (h1 : wr.heap.size ≤ W1.heap.size) (hs : SlI w5 (fun g => W1.heap.size ≤ g ∧ g < w5.heap.size) A5 y.2.2.2) (o : Obj) :
    SlI (w5.alloc o) (fun g => bo + 1 ≤ g ∧ g < (w5.alloc o).heap.size ∧ v.ownBlock ≠ some g) A5 y.2.2.2 := by
  have hz := h.size
  refine (hs.keep fun p hp => World.cell?_alloc_lt w5 o p hp.2).mono fun g hg => ⟨by omega, by simp; omega, fun e => ?_⟩
  have := (h.own.blockOf g e).2
  omega
end

end Go.Proofs.Ytlheedcnmfekoaa
