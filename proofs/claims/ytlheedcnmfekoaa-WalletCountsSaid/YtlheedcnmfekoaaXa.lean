/- Wallet: sets of keys (maps to bool that a call makes), keys strings or pairs of a string and a number. -/
import Derived.Test.YtlheedcnmfekoaaWw
import Derived.Maps.Own
import Derived.Maps.OwnOps
import Derived.Maps.OwnSet
import Derived.Maps.Views
import Derived.StringKeys
import Derived.DeepKeys4
namespace Go.Proofs.Ytlheedcnmfekoaa
open Go.RowKit
set_option maxRecDepth 100000
set_option linter.unusedVariables false
set_option maxHeartbeats 4000000

/-- A kind of keys: as values, and as what they read as. -/
structure KeyT (K : TypeId) (α : Type) where
  key : α → Value
  lit : α → Lit
  same : α → α → Bool
  good : α → Prop
  law : Maps.Keyed Try.prog K
  ok : ∀ x, good x → keyOf Try.prog K (key x) = some (lit x)
  eqv : ∀ x y, good x → good y → (same x y = true ↔ lit y = lit x)
/-- A set of keys: block b is a map that holds true at just these. -/
def SetK {K : TypeId} {α : Type} (T : KeyT K α) (w : World) (b n : Nat) (ls : List α) : Prop :=
  ∃ D : DataW Unit, w.ownsMap Try.prog K (plainElem Try.prog 4) b n D ∧ Maps.IsMap D ∧
    ∀ s, T.good s → D.atKey (T.lit s) (.lit (.bool false)) = .lit (.bool (ls.any fun x => T.same x s))
section
variable {K : TypeId} {α : Type} {T : KeyT K α}
theorem SetK.made (w : World) : SetK T (w.alloc (.map #[] 0)) w.heap.size 0 [] :=
  ⟨.map [], World.ownsMap_made _ _ _ _, Maps.isMap_empty, fun s _ => rfl⟩
theorem SetK.kept {w w' : World} {b n B : Nat} {ls : List α} (h : SetK T w b n ls) (hb : Below B w w') (hB : b < B) : SetK T w' b n ls := by
  obtain ⟨D, ⟨es, clock, h1, h2⟩, hm, ha⟩ := h
  exact ⟨D, ⟨es, clock, (hb.block b hB).trans h1, h2⟩, hm, ha⟩
theorem SetK.lt {w : World} {b n : Nat} {ls : List α} (h : SetK T w b n ls) : b < w.heap.size := by
  obtain ⟨D, ho, _, _⟩ := h
  exact ho.lt
/-- 'm[k]' at elements that are bools. -/
theorem SetK.look {w : World} {b n : Nat} {ls : List α} (hown : SetK T w b n ls) {t : TypeId} (ht : Try.prog.underlying t = some (.map K 4)) (s : α) (hs : T.good s) :
    (Instr.lookup t (.map (some b)) (T.key s) false).run Try.prog w = .ok (.bool (ls.any fun y => T.same y s)) w := by
  obtain ⟨D, ho, _, ha⟩ := hown
  have hz : (zeroValue 4).run Try.prog w = .ok (.bool false) w := by kernel_rfl
  obtain ⟨v, ps, hrun, hv⟩ := ho.lookup T.law ht hz (plainElem_bool Try.underlying4 false) (T.ok s hs)
  rw [ha s hs] at hv
  have hv2 : v = .bool (ls.any fun y => T.same y s) := by
    unfold plainElem at hv
    rw [Try.underlying4] at hv
    cases v <;> simp at hv
    rw [hv.1]
  subst hv2
  exact hrun
theorem wpList_look_K {ops : Array Oper} {rest : List Oper} {o : Oper} {a : Act} {Q : Exit → Act → World → Prop} (w : World)
    (hg : o.guard = none) (m x : Operand) (t : TypeId) (hop : o.op = Op.lookup t m x false) (ht : Try.prog.underlying t = some (.map K 4))
    (b n : Nat) (ls : List α) (hm : a.eval m = .map (some b)) (hown : SetK T w b n ls) (s : α) (hx : a.eval x = T.key s) (hs : T.good s)
    (hK : wpList Try.prog ops Q rest (a.put o.dst (.bool (ls.any fun y => T.same y s))) w) :
    wpList Try.prog ops Q (o :: rest) a w := by
  refine wpList_plain hg fun K' hK' => ?_
  have hrun := hown.look ht s hs
  unfold Oper.wp
  simp [execOp, hop, hm, hx, hrun, Result.andThen]
  exact hK' _ _ hK
/-- 'm[k] = true'. -/
theorem wpList_put_K {ops : Array Oper} {rest : List Oper} {o : Oper} {a : Act} {Q : Exit → Act → World → Prop} (w : World)
    (hg : o.guard = none) (m x v : Operand) (t : TypeId) (hop : o.op = Op.mapUpdate t m x v) (ht : Try.prog.underlying t = some (.map K 4))
    (b n : Nat) (ls : List α) (hm : a.eval m = .map (some b)) (hown : SetK T w b n ls) (hn : n ≤ 10000) (s : α) (hx : a.eval x = T.key s) (hv : a.eval v = .bool true) (hs : T.good s)
    (hK : ∀ w', SetK T w' b (n + 1) (s :: ls) → Below b w w' → w.heap.size ≤ w'.heap.size → wpList Try.prog ops Q rest (a.put o.dst undef) w') :
    wpList Try.prog ops Q (o :: rest) a w := by
  obtain ⟨D, ho, hm', ha⟩ := hown
  have hlt := ho.lt
  refine wpList_mapUpdate_own w hg m x v t hop K 4 T.law ht _ b n D hm ho (by unfold maxLen; omega) _ _ _ hx hv (T.ok s hs) _ [] (plainElem_bool Try.underlying4 true) ?_
  intro w' ho' hgr
  refine hK w' ⟨_, ho', hm'.put _ _, fun s' hs' => ?_⟩ ?_ hgr.size
  · rw [List.any_cons]
    cases e : T.same s s'
    · rw [Maps.atKey_put_other (by intro h; rw [(T.eqv s s' hs hs').2 h] at e; cases e), ha s' hs', Bool.false_or]
    · rw [(T.eqv s s' hs hs').1 e, Maps.atKey_put_same hm' (T.law.key (T.ok s hs)), Bool.true_or]
  · exact (Below.refl b w).grown hgr (Nat.le_of_lt hlt) (fun g hg => by injection hg with hg; omega)
end

/-! ### strings -/
theorem tl_beq_iff (a b : ByteArray) : (a.toList == b.toList) = decide (a.data.toList = b.data.toList) := by
  rw [Bool.eq_iff_iff, beq_iff_eq, decide_eq_true_eq, ByteArray.toList_eq, ByteArray.toList_eq]
theorem tl_inj {a b : ByteArray} (h : a.toList = b.toList) : a = b := by
  rw [ByteArray.toList_eq, ByteArray.toList_eq] at h
  cases a with
  | mk a => cases b with
    | mk b => simp only at h; rw [Array.toList_inj.1 h]
def keyS : KeyT 9 ByteArray where
  key s := .string s
  lit s := .string s.data.toList
  same a b := a.toList == b.toList
  good s := s.size ≤ 100000
  law := Maps.string_keyed Try.underlying9
  ok s hs := Go.WideMaps.keyOf_string_mk Try.underlying9 (by unfold maxLen; omega)
  eqv a b _ _ := by
    rw [tl_beq_iff, decide_eq_true_eq]
    constructor
    · intro h; rw [h]
    · intro h; injection h with h; exact h.symm

/-! ### pairs -/
theorem laidOut : laidOutB Try.prog = true := by kernel_rfl
theorem per_row : (89 : TypeId) < Try.prog.types.size := of_decide_eq_true (by kernel_rfl)
theorem per_wide : (match Try.prog.underlying 89 with | some (.array _ _) | some (.struct _) => true | _ => false) = true := by kernel_rfl
theorem law_per : Go.WideMaps.KeyLaw Try.prog 89 := deep_law_laid laidOut (m := 2) (by omega) per_row (by kernel_rfl) per_wide
/-- A pair as a value. -/
def perV (x : ByteArray × Int) : Value := .agg #[.string x.1, .int .i64 x.2]
theorem types_succ : ∃ d, Try.prog.types.size = d + 1 := Nat.exists_eq_succ_of_ne_zero (fun h => by have := per_row; rw [h] at this; exact absurd this (Nat.not_lt_zero _))
theorem per_key : Try.prog.keyType 89 = true := by kernel_rfl
theorem cells_s : Try.prog.cellsOf 9 = 1 := by kernel_rfl
theorem cells_i : Try.prog.cellsOf 3 = 1 := by kernel_rfl
theorem cells_p : Try.prog.cellsOf 89 = 2 := by kernel_rfl
theorem lits_s (d : Nat) (s : ByteArray) (h : s.size ≤ maxLen) : Try.prog.keyLits (d + 1) 9 [.string s] = some [.string s.data.toList] := by
  unfold Program.keyLits
  simp [Try.underlying9, h]
theorem lits_i (d : Nat) (z : Int) (h : (Lit.int .i64 z).wf = true) : Try.prog.keyLits (d + 1) 3 [.int .i64 z] = some [.int .i64 z] := by
  unfold Program.keyLits
  simp [Try.underlying3, h]
theorem lits_p (d : Nat) (x : ByteArray × Int) (h1 : x.1.size ≤ maxLen) (h2 : (Lit.int .i64 x.2).wf = true) : Try.prog.keyLits (d + 1 + 1) 89 [.string x.1, .int .i64 x.2] = some [.string x.1.data.toList, .int .i64 x.2] := by
  unfold Program.keyLits
  simp [Try.underlying89, cells_p, cells_s, cells_i, lits_s d x.1 h1, lits_i d x.2 h2]
theorem per_lit (x : ByteArray × Int) (h1 : x.1.size ≤ 100000) (h2 : (Lit.int .i64 x.2).wf = true) : ∃ l, keyOf Try.prog 89 (perV x) = some l := by
  obtain ⟨d, hd⟩ := types_succ
  have hm : x.1.size ≤ maxLen := by unfold maxLen; omega
  have hl := lits_p d x hm h2
  have hf : (perV x).formed Try.prog 89 = true := by
    unfold perV
    simp [Value.formed, Try.underlying89, cells_p]
  have hc : (perV x).cells.toList = [.string x.1, .int .i64 x.2] := by
    unfold perV
    simp [Value.cells]
  refine ⟨.string (keyBytes [.string x.1.data.toList, .int .i64 x.2]), ?_⟩
  unfold keyOf
  rw [Try.underlying89]
  dsimp only
  rw [per_key, hf, hc, hd, hl]
  rfl
noncomputable def keyP : KeyT 89 (ByteArray × Int) where
  key := perV
  lit x := (keyOf Try.prog 89 (perV x)).getD (.bool false)
  same a b := a.1.toList == b.1.toList && a.2 == b.2
  good x := x.1.size ≤ 100000 ∧ (Lit.int .i64 x.2).wf = true
  law := Maps.Keyed.of_law law_per
  ok x hx := by
    obtain ⟨l, hl⟩ := per_lit x hx.1 hx.2
    rw [hl]
    rfl
  eqv a b ha hb := by
    obtain ⟨la, hla⟩ := per_lit a ha.1 ha.2
    obtain ⟨lb, hlb⟩ := per_lit b hb.1 hb.2
    obtain ⟨a1, a2⟩ := a
    obtain ⟨b1, b2⟩ := b
    rw [hla, hlb]
    simp only [Option.getD_some, Bool.and_eq_true, beq_iff_eq]
    constructor
    · rintro ⟨e1, e2⟩
      have e1 := tl_inj e1
      subst e1
      subst e2
      rw [hla] at hlb
      injection hlb with e
      exact e.symm
    · intro e
      subst e
      have := law_per.inj hla hlb
      unfold perV at this
      injection this with e3
      have e4 := congrArg Array.toList e3
      simp at e4
      exact ⟨by rw [e4.1], e4.2⟩

end Go.Proofs.Ytlheedcnmfekoaa
