/- Wallet: words for Apply: its map of effects, its deferred call, its boxes. -/
import Derived.Test.YtlheedcnmfekoaaYe
import Derived.Test.YtlheedcnmfekoaaYg
import Derived.Test.YtlheedcnmfekoaaXk
namespace Go.Proofs.Ytlheedcnmfekoaa
open Go.RowKit
set_option maxRecDepth 100000
set_option linter.unusedVariables false
set_option maxHeartbeats 8000000

theorem apply_idle (p q : Option Addr) (w : World) :
    CallsD Try.prog 26 #[.pointer p, .pointer q] .returning w fun e u' w' => e = .returned (.tuple #[]) ∧ u' = .returning ∧ w' = w := by
  have hnn : ∀ w, (binOp .neq 20 .nilIface .nilIface).run Try.prog w = .ok (.bool false) w := fun w => Lib.run_neq_nil_nil w Try.underlying20
  refine callsD_of_wpS Try.func26 rfl fun c₀ cs hu => ?_
  apply wpS_seq
  apply wpS_region
  simp [wpOpsS, go_sem, recoverD, hu, Try.ntmps26, Exit.thenS]
  apply wpS_seq
  apply wpS_region
  simp [wpOpsS, go_sem, recoverD, hu, hnn, Exit.thenS]
  refine wpS_cond (t := false) (by simp [Act.eval, Array.replicate]) ?_
  simp only [Bool.false_eq_true, if_false]
  refine wpS_of_wp (wp_skip ?_)
  cases c₀
  simp_all [bodyPostS, results, Try.results26]
/-- Elements of a map as they are. -/
def asIs (v : Value) : Option (DataW Value × List MemPlace) := some (.held v, [])
/-- A map of functions that the call makes: block b. -/
def FnMap (b n : Nat) (D : DataW Value) (w : World) : Prop := w.ownsMap Try.prog 9 asIs b n D
theorem FnMap.made (w : World) : FnMap w.heap.size 0 (.map []) (w.alloc (.map #[] 0)) := World.ownsMap_made _ _ _ _
theorem FnMap.kept {b n : Nat} {D : DataW Value} {w w' : World} (h : FnMap b n D w) (hb : w'.heap[b]? = w.heap[b]?) : FnMap b n D w' := by
  obtain ⟨es, clock, h1, h2⟩ := h
  exact ⟨es, clock, hb.trans h1, h2⟩
/-- 'map literal': an entry. -/
theorem wpList_insert_fn {ops : Array Oper} {rest : List Oper} {o : Oper} {a : Act} {Q : Exit → Act → World → Prop} (w : World)
    (hg : o.guard = none) (m x v : Operand) (t : TypeId) (hop : o.op = Op.insert t m x v) (e : TypeId) (ht : Try.prog.underlying t = some (.map 9 e)) (b n : Nat) (D : DataW Value)
    (hm : a.eval m = .map (some b)) (hown : FnMap b n D w) (hn : n ≤ 100) (k : ByteArray) (hk : k.size ≤ 1000) (val : Value) (hx : a.eval x = .string k) (hv : a.eval v = val)
    (hK : ∀ w', FnMap b (n + 1) (D.put (.string k.data.toList) (.held val)) w' → w.grownBy w' (some b) → wpList Try.prog ops Q rest (a.put o.dst undef) w') :
    wpList Try.prog ops Q (o :: rest) a w := by
  refine wpList_plain hg fun K' hK' => ?_
  have hkey : keyOf Try.prog 9 (.string k) = some (.string k.data.toList) := Go.WideMaps.keyOf_string_mk Try.underlying9 (by unfold maxLen; omega)
  obtain ⟨w', hrun, r1, r2⟩ := World.ownsMap.update hown (Maps.string_keyed Try.underlying9) ht (by unfold maxLen; omega) hkey (show asIs val = some (.held val, []) from rfl)
  unfold Oper.wp
  simp [execOp, hop, hm, hx, hv, hrun, Result.andThen]
  exact hK' _ _ (hK w' r1 r2)
/-- 'v, ok := m[k]' where the key is there. -/
theorem FnMap.look {b n : Nat} {D : DataW Value} {w : World} (h : FnMap b n D w) {t e : TypeId} (ht : Try.prog.underlying t = some (.map 9 e)) {z : Value} (hz : (zeroValue e).run Try.prog w = .ok z w) (k : ByteArray) (hk : k.size ≤ 1000) (val : Value)
    (hat : D.atKey (.string k.data.toList) (.held z) = .held val) (hhas : Maps.has D (.string k.data.toList) = true) :
    (Instr.lookup t (.map (some b)) (.string k) true).run Try.prog w = .ok (.tuple #[val, .bool true]) w := by
  have hkey : keyOf Try.prog 9 (.string k) = some (.string k.data.toList) := Go.WideMaps.keyOf_string_mk Try.underlying9 (by unfold maxLen; omega)
  obtain ⟨v, ps, hrun, hv⟩ := World.ownsMap.look_ok h (Maps.string_keyed Try.underlying9) ht hz (show asIs z = some (.held z, []) from rfl) hkey
  rw [hat] at hv
  unfold asIs at hv
  injection hv with hv
  injection hv with hv
  injection hv with hv
  rw [hrun, hhas, hv]

/-- The boxes of Apply: results, the item, the state; what came in. -/
structure ApB (w : World) (S : Nat → Prop) (sec : ByteArray) (qs : List Az) (hs : List Hz) (us : List Uz) (Aa : Option Addr) (na ca : Nat) (Ah : Option Addr) (nh ch : Nat) (Au : Option Addr) (nu cu : Nat) (n t : ByteArray) (l : Its) (A : Option Addr) (m c b6 : Nat) (wx : World) : Prop where
  box : wx.heap[w.heap.size]? = some (.cells #[.string sec, .slice Aa na ca, .slice Ah nh ch, .slice Au nu cu] 28 (0, 0))
  res : wx.heap[w.heap.size + 1]? = some (.cells #[.string ⟨#[]⟩, .slice none 0 0, .slice none 0 0, .slice none 0 0] 28 (0, 0))
  err : wx.heap[w.heap.size + 1 + 1]? = some (.cells #[.int .i64 0] 30 (0, 0))
  it : wx.heap[b6]? = some (.cells #[.int .i64 2, .string n, .string t, .slice A m c] 69 (0, 0))
  mem : SlK wx (fun g => w.heap.size + 3 ≤ g ∧ g < b6) A l
  src : WalM wx S qs hs us Aa Ah Au
  bel : Below w.heap.size w wx
  lo : w.heap.size + 3 ≤ b6
  size : b6 < wx.heap.size
section
variable {w wx w' : World} {S : Nat → Prop} {sec : ByteArray} {qs : List Az} {hs : List Hz} {us : List Uz} {Aa : Option Addr} {na ca : Nat} {Ah : Option Addr} {nh ch : Nat} {Au : Option Addr} {nu cu : Nat} {n t : ByteArray} {l : Its} {A : Option Addr} {m c b6 : Nat}
theorem ApB.next (h : ApB w S sec qs hs us Aa na ca Ah nh ch Au nu cu n t l A m c b6 wx) (hS : ∀ g, S g → g < w.heap.size) (hb : Below (b6 + 1) wx w') : ApB w S sec qs hs us Aa na ca Ah nh ch Au nu cu n t l A m c b6 w' :=
  have hlo := h.lo
  ⟨(hb.block _ (by omega)).trans h.box, (hb.block _ (by omega)).trans h.res, (hb.block _ (by omega)).trans h.err, (hb.block _ (by omega)).trans h.it, h.mem.keep (fun p hp => hb.cell (by have := hp.2; omega)), h.src.keep (fun p hp => hb.cell (by have := hS _ hp; omega)), h.bel.trans (hb.mono (by omega)), h.lo, Nat.lt_of_lt_of_le h.size hb.size⟩
theorem ApB.grown {rb : Nat} (h : ApB w S sec qs hs us Aa na ca Ah nh ch Au nu cu n t l A m c b6 wx) (hS : ∀ g, S g → g < w.heap.size) (hg : wx.grownBy w' (some rb)) (hr : b6 < rb) : ApB w S sec qs hs us Aa na ca Ah nh ch Au nu cu n t l A m c b6 w' :=
  h.next hS (below_grown hg h.size (fun g hg => by injection hg; omega))
theorem ApB.ic (h : ApB w S sec qs hs us Aa na ca Ah nh ch Au nu cu n t l A m c b6 wx) : wx.cell? ⟨b6, 0, none⟩ = some (.int .i64 2) ∧ wx.cell? ⟨b6, 1, none⟩ = some (.string n) ∧ wx.cell? ⟨b6, 2, none⟩ = some (.string t) ∧ wx.cell? ⟨b6, 3, none⟩ = some (.slice A m c) :=
  ⟨cell_of_row wx _ 0 _ _ _ h.it, cell_of_row wx _ 1 _ _ _ h.it, cell_of_row wx _ 2 _ _ _ h.it, cell_of_row wx _ 3 _ _ _ h.it⟩
theorem ApB.bc (h : ApB w S sec qs hs us Aa na ca Ah nh ch Au nu cu n t l A m c b6 wx) : wx.cell? ⟨w.heap.size, 0, none⟩ = some (.string sec) ∧ wx.cell? ⟨w.heap.size, 1, none⟩ = some (.slice Aa na ca) ∧ wx.cell? ⟨w.heap.size, 2, none⟩ = some (.slice Ah nh ch) ∧ wx.cell? ⟨w.heap.size, 3, none⟩ = some (.slice Au nu cu) :=
  ⟨cell_of_row wx _ 0 _ _ _ h.box, cell_of_row wx _ 1 _ _ _ h.box, cell_of_row wx _ 2 _ _ _ h.box, cell_of_row wx _ 3 _ _ _ h.box⟩
theorem ApB.rc (h : ApB w S sec qs hs us Aa na ca Ah nh ch Au nu cu n t l A m c b6 wx) : (wx.cell? ⟨w.heap.size + 1, 0, none⟩ = some (.string ⟨#[]⟩) ∧ wx.cell? ⟨w.heap.size + 1, 1, none⟩ = some (.slice none 0 0) ∧ wx.cell? ⟨w.heap.size + 1, 2, none⟩ = some (.slice none 0 0) ∧ wx.cell? ⟨w.heap.size + 1, 3, none⟩ = some (.slice none 0 0)) ∧
    (wx.frozen? ⟨w.heap.size + 1, 0, none⟩ = false ∧ wx.frozen? ⟨w.heap.size + 1, 1, none⟩ = false ∧ wx.frozen? ⟨w.heap.size + 1, 2, none⟩ = false ∧ wx.frozen? ⟨w.heap.size + 1, 3, none⟩ = false) ∧ wx.cell? ⟨w.heap.size + 1 + 1, 0, none⟩ = some (.int .i64 0) ∧ wx.frozen? ⟨w.heap.size + 1 + 1, 0, none⟩ = false :=
  ⟨⟨cell_of_row wx _ 0 _ _ _ h.res, cell_of_row wx _ 1 _ _ _ h.res, cell_of_row wx _ 2 _ _ _ h.res, cell_of_row wx _ 3 _ _ _ h.res⟩, ⟨frozen_of_row wx _ 0 _ _ h.res, frozen_of_row wx _ 1 _ _ h.res, frozen_of_row wx _ 2 _ _ h.res, frozen_of_row wx _ 3 _ _ h.res⟩, cell_of_row wx _ 0 _ _ _ h.err, frozen_of_row wx _ 0 _ _ h.err⟩
end
/-- The state's box, one behind the item's. -/
def StB (sec : ByteArray) (Aa : Option Addr) (na ca : Nat) (Ah : Option Addr) (nh ch : Nat) (Au : Option Addr) (nu cu b8 : Nat) (w : World) : Prop := w.heap[b8]? = some (.cells #[.string sec, .slice Aa na ca, .slice Ah nh ch, .slice Au nu cu] 76 (0, 0))
theorem StB.cells {sec : ByteArray} {Aa : Option Addr} {na ca : Nat} {Ah : Option Addr} {nh ch : Nat} {Au : Option Addr} {nu cu b8 : Nat} {w : World} (h : StB sec Aa na ca Ah nh ch Au nu cu b8 w) : w.cell? ⟨b8, 0, none⟩ = some (.string sec) ∧ w.cell? ⟨b8, 1, none⟩ = some (.slice Aa na ca) ∧ w.cell? ⟨b8, 2, none⟩ = some (.slice Ah nh ch) ∧ w.cell? ⟨b8, 3, none⟩ = some (.slice Au nu cu) :=
  ⟨cell_of_row w _ 0 _ _ _ h, cell_of_row w _ 1 _ _ _ h, cell_of_row w _ 2 _ _ _ h, cell_of_row w _ 3 _ _ _ h⟩

theorem wpl {P : Program} {ops : Array Oper} {l : List Oper} {a : Act} {Q : Exit → Act → World → Prop} {w : World} (h : wpList P ops Q l a w) : wpList P ops Q l a w := h
/-- The boxes, the state, the map of effects. -/
structure MpB (w : World) (S : Nat → Prop) (sec : ByteArray) (qs : List Az) (hs : List Hz) (us : List Uz) (Aa : Option Addr) (na ca : Nat) (Ah : Option Addr) (nh ch : Nat) (Au : Option Addr) (nu cu : Nat) (n t : ByteArray) (l : Its) (A : Option Addr) (m c b6 b9 k : Nat) (D : DataW Value) (wx : World) : Prop where
  ap : ApB w S sec qs hs us Aa na ca Ah nh ch Au nu cu n t l A m c b6 wx
  st : StB sec Aa na ca Ah nh ch Au nu cu (b6 + 1) wx
  fm : FnMap b9 k D wx
  lo : b6 + 2 ≤ b9
  size : b9 < wx.heap.size
theorem MpB.put {w wx w' : World} {S : Nat → Prop} {sec : ByteArray} {qs : List Az} {hs : List Hz} {us : List Uz} {Aa : Option Addr} {na ca : Nat} {Ah : Option Addr} {nh ch : Nat} {Au : Option Addr} {nu cu : Nat} {n t : ByteArray} {l : Its} {A : Option Addr} {m c b6 b9 k k' : Nat} {D D' : DataW Value} (h : MpB w S sec qs hs us Aa na ca Ah nh ch Au nu cu n t l A m c b6 b9 k D wx) (hS : ∀ g, S g → g < w.heap.size) (fm : FnMap b9 k' D' w') (hg : wx.grownBy w' (some b9)) :
    MpB w S sec qs hs us Aa na ca Ah nh ch Au nu cu n t l A m c b6 b9 k' D' w' :=
  have hlo := h.lo
  have hsz := h.size
  ⟨h.ap.grown hS hg (by omega), (hg.block _ (by omega) (fun e => by injection e; omega)).trans h.st, fm, h.lo, Nat.lt_of_lt_of_le h.size hg.size⟩

/-- The end of Apply: the wallet is laid into the result. -/
theorem ApB.fin {w wx : World} {S : Nat → Prop} {sec : ByteArray} {qs : List Az} {hs : List Hz} {us : List Uz} {Aa : Option Addr} {na ca : Nat} {Ah : Option Addr} {nh ch : Nat} {Au : Option Addr} {nu cu : Nat} {n t : ByteArray} {l : Its} {A : Option Addr} {m c b6 : Nat} (h : ApB w S sec qs hs us Aa na ca Ah nh ch Au nu cu n t l A m c b6 wx)
    {qs' : List Az} {hs' : List Hz} {us' : List Uz} {A1 A2 A3 : Option Addr} {B : Nat} (hB : w.heap.size + 3 ≤ B) (hm : WalM wx (fun g => B ≤ g ∧ g < wx.heap.size) qs' hs' us' A1 A2 A3) (x0 x1 x2 x3 : Value) {W : World}
    (hW : (((((wx.setCell ⟨w.heap.size + 1, 0, none⟩ x0).setCell ⟨w.heap.size + 1, 1, none⟩ x1).setCell ⟨w.heap.size + 1, 2, none⟩ x2).setCell ⟨w.heap.size + 1, 3, none⟩ x3).setCell ⟨w.heap.size + 1 + 1, 0, none⟩ (.int .i64 0)) = W) :
    (W.cell? ⟨w.heap.size + 1, 0, none⟩ = some x0 ∧ W.cell? ⟨w.heap.size + 1, 1, none⟩ = some x1 ∧ W.cell? ⟨w.heap.size + 1, 2, none⟩ = some x2 ∧ W.cell? ⟨w.heap.size + 1, 3, none⟩ = some x3) ∧ W.cell? ⟨w.heap.size + 1 + 1, 0, none⟩ = some (.int .i64 0) ∧ WalM W (fun g => w.heap.size ≤ g ∧ g < W.heap.size) qs' hs' us' A1 A2 A3 ∧ Below w.heap.size w W := by
  subst hW
  have hl1 : w.heap.size ≤ w.heap.size + 1 := Nat.le_succ _
  have hl2 : w.heap.size ≤ w.heap.size + 1 + 1 := Nat.le_add_right _ 2
  have e0 := heap_setCell_same wx (w.heap.size + 1) 0 _ _ x0 h.res
  have e1 := heap_setCell_same _ (w.heap.size + 1) 1 _ _ x1 e0
  have e2 := heap_setCell_same _ (w.heap.size + 1) 2 _ _ x2 e1
  have e3 := heap_setCell_same _ (w.heap.size + 1) 3 _ _ x3 e2
  have hne : w.heap.size + 1 ≠ w.heap.size + 1 + 1 := by omega
  have hne' : w.heap.size + 1 + 1 ≠ w.heap.size + 1 := by omega
  have e4 := (heap_setCell_other _ ⟨w.heap.size + 1 + 1, 0, none⟩ _ (.int .i64 0) hne).trans e3
  have e5 := heap_setCell_same ((((wx.setCell ⟨w.heap.size + 1, 0, none⟩ x0).setCell ⟨w.heap.size + 1, 1, none⟩ x1).setCell ⟨w.heap.size + 1, 2, none⟩ x2).setCell ⟨w.heap.size + 1, 3, none⟩ x3) (w.heap.size + 1 + 1) 0 _ _ (.int .i64 0) (by
    rw [heap_setCell_other _ _ _ _ hne', heap_setCell_other _ _ _ _ hne', heap_setCell_other _ _ _ _ hne', heap_setCell_other _ _ _ _ hne']
    exact h.err)
  have o : ∀ g, w.heap.size + 3 ≤ g → (((((wx.setCell ⟨w.heap.size + 1, 0, none⟩ x0).setCell ⟨w.heap.size + 1, 1, none⟩ x1).setCell ⟨w.heap.size + 1, 2, none⟩ x2).setCell ⟨w.heap.size + 1, 3, none⟩ x3).setCell ⟨w.heap.size + 1 + 1, 0, none⟩ (.int .i64 0)).heap[g]? = wx.heap[g]? := fun g hg => by
    have k1 : g ≠ w.heap.size + 1 := by omega
    have k2 : g ≠ w.heap.size + 1 + 1 := by omega
    rw [heap_setCell_other _ _ _ _ k2, heap_setCell_other _ _ _ _ k1, heap_setCell_other _ _ _ _ k1, heap_setCell_other _ _ _ _ k1, heap_setCell_other _ _ _ _ k1]
  refine ⟨⟨cell_of_row _ _ 0 _ _ _ e4, cell_of_row _ _ 1 _ _ _ e4, cell_of_row _ _ 2 _ _ _ e4, cell_of_row _ _ 3 _ _ _ e4⟩, cell_of_row _ _ 0 _ _ _ e5, (hm.keep (fun p hp => World.cell?_of_block (o _ (Nat.le_trans hB hp.1)))).mono (fun g hg => ⟨by have := hg.1; omega, by simpa using hg.2⟩), ((((h.bel.setCell (p := ⟨w.heap.size + 1, 0, none⟩) hl1 _).setCell (p := ⟨w.heap.size + 1, 1, none⟩) hl1 _).setCell (p := ⟨w.heap.size + 1, 2, none⟩) hl1 _).setCell (p := ⟨w.heap.size + 1, 3, none⟩) hl1 _).setCell (p := ⟨w.heap.size + 1 + 1, 0, none⟩) hl2 _⟩

/-- What Apply hands back. -/
def ApGot (w : World) (sec : ByteArray) (qs : List Az) (hs : List Hz) (us : List Uz) (o : Ending) (w' : World) : Prop :=
  ∃ A1 n1 c1 A2 n2 c2 A3 n3 c3, o = .returned (.tuple #[.agg #[.string sec, .slice A1 n1 c1, .slice A2 n2 c2, .slice A3 n3 c3], .int .i64 0]) ∧ n1 = qs.length ∧ n2 = hs.length ∧ n3 = us.length ∧ WalM w' (fun g => w.heap.size ≤ g ∧ g < w'.heap.size) qs hs us A1 A2 A3 ∧ Below w.heap.size w w'

end Go.Proofs.Ytlheedcnmfekoaa
