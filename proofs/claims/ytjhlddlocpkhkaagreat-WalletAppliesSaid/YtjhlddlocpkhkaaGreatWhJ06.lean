/- Wallet: sets of keys (maps to bool that a call makes), keys strings or pairs of a string and a number. Wallet: slices.Clone of rows of requests, credentials, counts and numbers. Wallet: requests and credentials in memory; wallets of the call's own. strings.Builder: String keeps every cell's value. -/
import Derived.Test.YtjhlddlocpkhkaaGreatWhJ05
import Derived.Maps.Own
import Derived.Maps.OwnOps
import Derived.Maps.OwnSet
import Derived.Maps.Views
import Derived.StringKeys
import Derived.DeepKeys4
import Derived.Test.YtjhlddlocpkhkaaGreatWhJ04
namespace Go.Proofs.YtjhlddlocpkhkaaGreat
open Go.RowKit
set_option maxRecDepth 100000
set_option linter.unusedVariables false
set_option maxHeartbeats 4000000
/-- A kind of keys: as values, and as what they read as. -/
structure KeyT (K : TypeId) (α : Type) where
  key : α → Value
  lit : α → Lit
  same : α → α → Bool
  good : α → Prop
  law : Maps.Keyed Tryz.prog K
  ok : ∀ x, good x → keyOf Tryz.prog K (key x) = some (lit x)
  eqv : ∀ x y, good x → good y → (same x y = true ↔ lit y = lit x)
/-- A set of keys: block b is a map that holds true at just these. -/
def SetK {K : TypeId} {α : Type} (T : KeyT K α) (w : World) (b n : Nat) (ls : List α) : Prop :=
  ∃ D : DataW Unit, w.ownsMap Tryz.prog K (plainElem Tryz.prog 4) b n D ∧ Maps.IsMap D ∧
    ∀ s, T.good s → D.atKey (T.lit s) (.lit (.bool false)) = .lit (.bool (ls.any fun x => T.same x s))
section
variable {K : TypeId} {α : Type} {T : KeyT K α}
theorem SetK.made (w : World) : SetK T (w.alloc (.map #[] 0)) w.heap.size 0 [] :=
  ⟨.map [], World.ownsMap_made _ _ _ _, Maps.isMap_empty, fun s _ => rfl⟩
theorem SetK.kept {w w' : World} {b n B : Nat} {ls : List α} (h : SetK T w b n ls) (hb : Below B w w') (hB : b < B) : SetK T w' b n ls := by
  obtain ⟨D, ⟨es, clock, h1, h2⟩, hm, ha⟩ := h
  exact ⟨D, ⟨es, clock, (hb.block b hB).trans h1, h2⟩, hm, ha⟩
theorem SetK.lt {w : World} {b n : Nat} {ls : List α} (h : SetK T w b n ls) : b < w.heap.size := by
  obtain ⟨D, ho, _, _⟩ := h
  exact ho.lt
/-- 'm[k]' at elements that are bools. -/
theorem SetK.look {w : World} {b n : Nat} {ls : List α} (hown : SetK T w b n ls) {t : TypeId} (ht : Tryz.prog.underlying t = some (.map K 4)) (s : α) (hs : T.good s) :
    (Instr.lookup t (.map (some b)) (T.key s) false).run Tryz.prog w = .ok (.bool (ls.any fun y => T.same y s)) w := by
  obtain ⟨D, ho, _, ha⟩ := hown
  have hz : (zeroValue 4).run Tryz.prog w = .ok (.bool false) w := by kernel_rfl
  obtain ⟨v, ps, hrun, hv⟩ := ho.lookup T.law ht hz (plainElem_bool Tryz.underlying4 false) (T.ok s hs)
  rw [ha s hs] at hv
  have hv2 : v = .bool (ls.any fun y => T.same y s) := by
    unfold plainElem at hv
    rw [Tryz.underlying4] at hv
    cases v <;> simp at hv
    rw [hv.1]
  subst hv2
  exact hrun
theorem wpList_look_K {ops : Array Oper} {rest : List Oper} {o : Oper} {a : Act} {Q : Exit → Act → World → Prop} (w : World)
    (hg : o.guard = none) (m x : Operand) (t : TypeId) (hop : o.op = Op.lookup t m x false) (ht : Tryz.prog.underlying t = some (.map K 4))
    (b n : Nat) (ls : List α) (hm : a.eval m = .map (some b)) (hown : SetK T w b n ls) (s : α) (hx : a.eval x = T.key s) (hs : T.good s)
    (hK : wpList Tryz.prog ops Q rest (a.put o.dst (.bool (ls.any fun y => T.same y s))) w) :
    wpList Tryz.prog ops Q (o :: rest) a w := by
  refine wpList_plain hg fun K' hK' => ?_
  have hrun := hown.look ht s hs
  unfold Oper.wp
  simp [execOp, hop, hm, hx, hrun, Result.andThen]
  exact hK' _ _ hK
/-- 'm[k] = true'. -/
theorem wpList_put_K {ops : Array Oper} {rest : List Oper} {o : Oper} {a : Act} {Q : Exit → Act → World → Prop} (w : World)
    (hg : o.guard = none) (m x v : Operand) (t : TypeId) (hop : o.op = Op.mapUpdate t m x v) (ht : Tryz.prog.underlying t = some (.map K 4))
    (b n : Nat) (ls : List α) (hm : a.eval m = .map (some b)) (hown : SetK T w b n ls) (hn : n ≤ 10000) (s : α) (hx : a.eval x = T.key s) (hv : a.eval v = .bool true) (hs : T.good s)
    (hK : ∀ w', SetK T w' b (n + 1) (s :: ls) → Below b w w' → w.heap.size ≤ w'.heap.size → wpList Tryz.prog ops Q rest (a.put o.dst undef) w') :
    wpList Tryz.prog ops Q (o :: rest) a w := by
  obtain ⟨D, ho, hm', ha⟩ := hown
  have hlt := ho.lt
  refine wpList_mapUpdate_own w hg m x v t hop K 4 T.law ht _ b n D hm ho (by unfold maxLen; omega) _ _ _ hx hv (T.ok s hs) _ [] (plainElem_bool Tryz.underlying4 true) ?_
  intro w' ho' hgr
  refine hK w' ⟨_, ho', hm'.put _ _, fun s' hs' => ?_⟩ ?_ hgr.size
  · rw [List.any_cons]
    cases e : T.same s s'
    · rw [Maps.atKey_put_other (by intro h; rw [(T.eqv s s' hs hs').2 h] at e; cases e), ha s' hs', Bool.false_or]
    · rw [(T.eqv s s' hs hs').1 e, Maps.atKey_put_same hm' (T.law.key (T.ok s hs)), Bool.true_or]
  · exact (Below.refl b w).grown hgr (Nat.le_of_lt hlt) (fun g hg => by injection hg with hg; omega)
end
theorem tl_beq_iff (a b : ByteArray) : (a.toList == b.toList) = decide (a.data.toList = b.data.toList) := by
  rw [Bool.eq_iff_iff, beq_iff_eq, decide_eq_true_eq, ByteArray.toList_eq, ByteArray.toList_eq]
theorem tl_inj {a b : ByteArray} (h : a.toList = b.toList) : a = b := by
  rw [ByteArray.toList_eq, ByteArray.toList_eq] at h
  cases a with
  | mk a => cases b with
    | mk b => simp only at h; rw [Array.toList_inj.1 h]
def keyS : KeyT 9 ByteArray where
  key s := .string s
  lit s := .string s.data.toList
  same a b := a.toList == b.toList
  good s := s.size ≤ 100000
  law := Maps.string_keyed Tryz.underlying9
  ok s hs := Go.WideMaps.keyOf_string_mk Tryz.underlying9 (by unfold maxLen; omega)
  eqv a b _ _ := by
    rw [tl_beq_iff, decide_eq_true_eq]
    constructor
    · intro h; rw [h]
    · intro h; injection h with h; exact h.symm
theorem laidOut : laidOutB Tryz.prog = true := by kernel_rfl
theorem per_row : (115 : TypeId) < Tryz.prog.types.size := of_decide_eq_true (by kernel_rfl)
theorem per_wide : (match Tryz.prog.underlying 115 with | some (.array _ _) | some (.struct _) => true | _ => false) = true := by kernel_rfl
theorem law_per : Go.WideMaps.KeyLaw Tryz.prog 115 := deep_law_laid laidOut (m := 2) (by omega) per_row (by kernel_rfl) per_wide
/-- A pair as a value. -/
def perV (x : ByteArray × Int) : Value := .agg #[.string x.1, .int .i64 x.2]
theorem types_succ : ∃ d, Tryz.prog.types.size = d + 1 := Nat.exists_eq_succ_of_ne_zero (fun h => by have := per_row; rw [h] at this; exact absurd this (Nat.not_lt_zero _))
theorem per_key : Tryz.prog.keyType 115 = true := by kernel_rfl
theorem cells_s : Tryz.prog.cellsOf 9 = 1 := by kernel_rfl
theorem cells_i : Tryz.prog.cellsOf 3 = 1 := by kernel_rfl
theorem cells_p : Tryz.prog.cellsOf 115 = 2 := by kernel_rfl
theorem lits_s (d : Nat) (s : ByteArray) (h : s.size ≤ maxLen) : Tryz.prog.keyLits (d + 1) 9 [.string s] = some [.string s.data.toList] := by
  unfold Program.keyLits
  simp [Tryz.underlying9, h]
theorem lits_i (d : Nat) (z : Int) (h : (Lit.int .i64 z).wf = true) : Tryz.prog.keyLits (d + 1) 3 [.int .i64 z] = some [.int .i64 z] := by
  unfold Program.keyLits
  simp [Tryz.underlying3, h]
theorem lits_p (d : Nat) (x : ByteArray × Int) (h1 : x.1.size ≤ maxLen) (h2 : (Lit.int .i64 x.2).wf = true) : Tryz.prog.keyLits (d + 1 + 1) 115 [.string x.1, .int .i64 x.2] = some [.string x.1.data.toList, .int .i64 x.2] := by
  unfold Program.keyLits
  simp [Tryz.underlying115, cells_p, cells_s, cells_i, lits_s d x.1 h1, lits_i d x.2 h2]
theorem per_lit (x : ByteArray × Int) (h1 : x.1.size ≤ 100000) (h2 : (Lit.int .i64 x.2).wf = true) : ∃ l, keyOf Tryz.prog 115 (perV x) = some l := by
  obtain ⟨d, hd⟩ := types_succ
  have hm : x.1.size ≤ maxLen := by unfold maxLen; omega
  have hl := lits_p d x hm h2
  have hf : (perV x).formed Tryz.prog 115 = true := by
    unfold perV
    simp [Value.formed, Tryz.underlying115, cells_p]
  have hc : (perV x).cells.toList = [.string x.1, .int .i64 x.2] := by
    unfold perV
    simp [Value.cells]
  refine ⟨.string (keyBytes [.string x.1.data.toList, .int .i64 x.2]), ?_⟩
  unfold keyOf
  rw [Tryz.underlying115]
  dsimp only
  rw [per_key, hf, hc, hd, hl]
  rfl
noncomputable def keyP : KeyT 115 (ByteArray × Int) where
  key := perV
  lit x := (keyOf Tryz.prog 115 (perV x)).getD (.bool false)
  same a b := a.1.toList == b.1.toList && a.2 == b.2
  good x := x.1.size ≤ 100000 ∧ (Lit.int .i64 x.2).wf = true
  law := Maps.Keyed.of_law law_per
  ok x hx := by
    obtain ⟨l, hl⟩ := per_lit x hx.1 hx.2
    rw [hl]
    rfl
  eqv a b ha hb := by
    obtain ⟨la, hla⟩ := per_lit a ha.1 ha.2
    obtain ⟨lb, hlb⟩ := per_lit b hb.1 hb.2
    obtain ⟨a1, a2⟩ := a
    obtain ⟨b1, b2⟩ := b
    rw [hla, hlb]
    simp only [Option.getD_some, Bool.and_eq_true, beq_iff_eq]
    constructor
    · rintro ⟨e1, e2⟩
      have e1 := tl_inj e1
      subst e1
      subst e2
      rw [hla] at hlb
      injection hlb with e
      exact e.symm
    · intro e
      subst e
      have := law_per.inj hla hlb
      unfold perV at this
      injection this with e3
      have e4 := congrArg Array.toList e3
      simp at e4
      exact ⟨by rw [e4.1], e4.2⟩
theorem RowC.none_ {w : World} {S : Nat → Prop} {n : Nat} {L : List Value} (h : RowC w S none n L) : n = 0 := by
  cases n with
  | zero => rfl
  | succ n => obtain ⟨g, off, e, _⟩ := h (by omega); cases e
theorem RowC.reads {w w' : World} {S : Nat → Prop} {A : Option Addr} {n k : Nat} {L : List Value} (h : RowC w S A n L) (hL : L.length = n * k) (hS : ∀ g, S g → g < w.heap.size) (hb : Below w.heap.size w w') : Reads w' w'.heap.size k A n L := ⟨hL, fun hx => by
  obtain ⟨g, off, e, hg, hc⟩ := h hx
  refine ⟨_, e, Nat.lt_of_lt_of_le (hS g hg) hb.size, fun j u hu => ?_⟩
  rw [addr_add]
  exact (hb.cell (p := ⟨g, off + j, none⟩) (hS g hg)).trans (hc j u hu)⟩
theorem infoE_A : ∃ i : TypeInfo, Tryz.prog.info? 40 = some i ∧ i.zero = some (.agg #[.string ByteArray.empty, .string ByteArray.empty, .string ByteArray.empty, .string ByteArray.empty, .string ByteArray.empty]) ∧ i.size = 5 ∧ i.bytes = 80 := by
  have h : (Tryz.prog.info? 40).map (fun i => (i.zero, i.size, i.bytes)) = some (some (.agg #[.string ByteArray.empty, .string ByteArray.empty, .string ByteArray.empty, .string ByteArray.empty, .string ByteArray.empty]), 5, 80) := by kernel_rfl
  obtain ⟨i, h1, h2, h3, h4⟩ := info_parts h
  exact ⟨i, h1, h2, h3, h4⟩
theorem cloneR_A (L : List Value) (A : Option Addr) (n c : Nat) (S : Nat → Prop) (w : World) (hL : L.length = n * 5) (h1 : ∀ u ∈ L, u.oneCell' = true) (hm : n ≤ 100000) (h : RowC w S A n L) (hS : ∀ g, S g → g < w.heap.size) :
    Calls Tryz.prog 103 #[.slice A n c] w fun e w' => ∃ v, e = .returned v ∧ w'.ownsRow w.heap.size 40 5 v n L ∧ Below w.heap.size w w' := by
  obtain ⟨i, hi, hz, hs1, hb1⟩ := infoE_A
  have q24 : ∀ w : World, (binOp .eql 23 (.slice A n c) (.slice none 0 0)).run Tryz.prog w = .ok (.bool A.isNone) w := fun w => Lib.run_eql_slice_nil w _ _ A n c 0 0 Tryz.underlying23
  cases A with
  | none =>
    obtain rfl := h.none_
    have h0 : L = [] := List.eq_nil_of_length_eq_zero (by omega)
    subst h0
    clear h hS hL h1 hm
    go_enter Tryz.func103, Tryz.ntmps103
    go_wp2_with fail
    go_ret
    exact ⟨_, rfl, World.ownsRow_nil w _ _ _, Below.refl _ _⟩
  | some ad =>
    have HR := Lib.hid (h.reads hL hS ((Below.refl w.heap.size w).alloc (Nat.le_refl _) (.cells #[] 40)))
    have H1 := Lib.hid h1
    clear h hS hL h1
    go_enter Tryz.func103, Tryz.ntmps103
    go_wp2_with (at_builtin; go_loud (refine wpList_append_any _ rfl _ _ 23 rfl w.heap.size 40 i (.agg #[.string ByteArray.empty, .string ByteArray.empty, .string ByteArray.empty, .string ByteArray.empty, .string ByteArray.empty]) 5 80 Tryz.underlying23 hi hz hs1 hb1 rfl (by decide) _ 0 [] rfl (World.ownsRow_made w #[] 0 (Nat.le_refl _) (Nat.zero_le _) rfl) _ (some ad) n c L rfl HR.out H1.out (by unfold maxLen; omega) (by omega) (by simp) ?_))
    intro v' w1 hown hgrow hnil
    have HO := Lib.hid (show w1.ownsRow w.heap.size 40 5 v' n L from by simpa using hown)
    have HB := Lib.hid (((Below.refl _ w).alloc (Nat.le_refl _) _).grown hgrow (by simp) (by intro k hk; simp [Value.ownBlock] at hk; omega))
    clear hown hgrow hnil
    go_wp2
    go_ret
    exact ⟨_, rfl, HO.out, HB.out⟩
theorem infoE_H : ∃ i : TypeInfo, Tryz.prog.info? 47 = some i ∧ i.zero = some (.agg #[.string ByteArray.empty, .string ByteArray.empty, .int .i64 0, .slice none 0 0, .string ByteArray.empty, .string ByteArray.empty, .string ByteArray.empty, .int .i64 0, .string ByteArray.empty]) ∧ i.size = 9 ∧ i.bytes = 136 := by
  have h : (Tryz.prog.info? 47).map (fun i => (i.zero, i.size, i.bytes)) = some (some (.agg #[.string ByteArray.empty, .string ByteArray.empty, .int .i64 0, .slice none 0 0, .string ByteArray.empty, .string ByteArray.empty, .string ByteArray.empty, .int .i64 0, .string ByteArray.empty]), 9, 136) := by kernel_rfl
  obtain ⟨i, h1, h2, h3, h4⟩ := info_parts h
  exact ⟨i, h1, h2, h3, h4⟩
theorem cloneR_H (L : List Value) (A : Option Addr) (n c : Nat) (S : Nat → Prop) (w : World) (hL : L.length = n * 9) (h1 : ∀ u ∈ L, u.oneCell' = true) (hm : n ≤ 100000) (h : RowC w S A n L) (hS : ∀ g, S g → g < w.heap.size) :
    Calls Tryz.prog 97 #[.slice A n c] w fun e w' => ∃ v, e = .returned v ∧ w'.ownsRow w.heap.size 47 9 v n L ∧ Below w.heap.size w w' := by
  obtain ⟨i, hi, hz, hs1, hb1⟩ := infoE_H
  have q24 : ∀ w : World, (binOp .eql 24 (.slice A n c) (.slice none 0 0)).run Tryz.prog w = .ok (.bool A.isNone) w := fun w => Lib.run_eql_slice_nil w _ _ A n c 0 0 Tryz.underlying24
  cases A with
  | none =>
    obtain rfl := h.none_
    have h0 : L = [] := List.eq_nil_of_length_eq_zero (by omega)
    subst h0
    clear h hS hL h1 hm
    go_enter Tryz.func97, Tryz.ntmps97
    go_wp2_with fail
    go_ret
    exact ⟨_, rfl, World.ownsRow_nil w _ _ _, Below.refl _ _⟩
  | some ad =>
    have HR := Lib.hid (h.reads hL hS ((Below.refl w.heap.size w).alloc (Nat.le_refl _) (.cells #[] 47)))
    have H1 := Lib.hid h1
    clear h hS hL h1
    go_enter Tryz.func97, Tryz.ntmps97
    go_wp2_with (at_builtin; go_loud (refine wpList_append_any _ rfl _ _ 24 rfl w.heap.size 47 i (.agg #[.string ByteArray.empty, .string ByteArray.empty, .int .i64 0, .slice none 0 0, .string ByteArray.empty, .string ByteArray.empty, .string ByteArray.empty, .int .i64 0, .string ByteArray.empty]) 9 136 Tryz.underlying24 hi hz hs1 hb1 rfl (by decide) _ 0 [] rfl (World.ownsRow_made w #[] 0 (Nat.le_refl _) (Nat.zero_le _) rfl) _ (some ad) n c L rfl HR.out H1.out (by unfold maxLen; omega) (by omega) (by simp) ?_))
    intro v' w1 hown hgrow hnil
    have HO := Lib.hid (show w1.ownsRow w.heap.size 47 9 v' n L from by simpa using hown)
    have HB := Lib.hid (((Below.refl _ w).alloc (Nat.le_refl _) _).grown hgrow (by simp) (by intro k hk; simp [Value.ownBlock] at hk; omega))
    clear hown hgrow hnil
    go_wp2
    go_ret
    exact ⟨_, rfl, HO.out, HB.out⟩
theorem infoE_U : ∃ i : TypeInfo, Tryz.prog.info? 57 = some i ∧ i.zero = some (.agg #[.string ByteArray.empty, .int .i64 0, .int .i64 0]) ∧ i.size = 3 ∧ i.bytes = 32 := by
  have h : (Tryz.prog.info? 57).map (fun i => (i.zero, i.size, i.bytes)) = some (some (.agg #[.string ByteArray.empty, .int .i64 0, .int .i64 0]), 3, 32) := by kernel_rfl
  obtain ⟨i, h1, h2, h3, h4⟩ := info_parts h
  exact ⟨i, h1, h2, h3, h4⟩
theorem cloneR_U (L : List Value) (A : Option Addr) (n c : Nat) (S : Nat → Prop) (w : World) (hL : L.length = n * 3) (h1 : ∀ u ∈ L, u.oneCell' = true) (hm : n ≤ 100000) (h : RowC w S A n L) (hS : ∀ g, S g → g < w.heap.size) :
    Calls Tryz.prog 104 #[.slice A n c] w fun e w' => ∃ v, e = .returned v ∧ w'.ownsRow w.heap.size 57 3 v n L ∧ Below w.heap.size w w' := by
  obtain ⟨i, hi, hz, hs1, hb1⟩ := infoE_U
  have q24 : ∀ w : World, (binOp .eql 25 (.slice A n c) (.slice none 0 0)).run Tryz.prog w = .ok (.bool A.isNone) w := fun w => Lib.run_eql_slice_nil w _ _ A n c 0 0 Tryz.underlying25
  cases A with
  | none =>
    obtain rfl := h.none_
    have h0 : L = [] := List.eq_nil_of_length_eq_zero (by omega)
    subst h0
    clear h hS hL h1 hm
    go_enter Tryz.func104, Tryz.ntmps104
    go_wp2_with fail
    go_ret
    exact ⟨_, rfl, World.ownsRow_nil w _ _ _, Below.refl _ _⟩
  | some ad =>
    have HR := Lib.hid (h.reads hL hS ((Below.refl w.heap.size w).alloc (Nat.le_refl _) (.cells #[] 57)))
    have H1 := Lib.hid h1
    clear h hS hL h1
    go_enter Tryz.func104, Tryz.ntmps104
    go_wp2_with (at_builtin; go_loud (refine wpList_append_any _ rfl _ _ 25 rfl w.heap.size 57 i (.agg #[.string ByteArray.empty, .int .i64 0, .int .i64 0]) 3 32 Tryz.underlying25 hi hz hs1 hb1 rfl (by decide) _ 0 [] rfl (World.ownsRow_made w #[] 0 (Nat.le_refl _) (Nat.zero_le _) rfl) _ (some ad) n c L rfl HR.out H1.out (by unfold maxLen; omega) (by omega) (by simp) ?_))
    intro v' w1 hown hgrow hnil
    have HO := Lib.hid (show w1.ownsRow w.heap.size 57 3 v' n L from by simpa using hown)
    have HB := Lib.hid (((Below.refl _ w).alloc (Nat.le_refl _) _).grown hgrow (by simp) (by intro k hk; simp [Value.ownBlock] at hk; omega))
    clear hown hgrow hnil
    go_wp2
    go_ret
    exact ⟨_, rfl, HO.out, HB.out⟩
theorem infoE_N : ∃ i : TypeInfo, Tryz.prog.info? 22 = some i ∧ i.zero = some (.string ByteArray.empty) ∧ i.size = 1 ∧ i.bytes = 16 := by
  have h : (Tryz.prog.info? 22).map (fun i => (i.zero, i.size, i.bytes)) = some (some (.string ByteArray.empty), 1, 16) := by kernel_rfl
  obtain ⟨i, h1, h2, h3, h4⟩ := info_parts h
  exact ⟨i, h1, h2, h3, h4⟩
theorem cloneR_N (L : List Value) (A : Option Addr) (n c : Nat) (S : Nat → Prop) (w : World) (hL : L.length = n * 1) (h1 : ∀ u ∈ L, u.oneCell' = true) (hm : n ≤ 100000) (h : RowC w S A n L) (hS : ∀ g, S g → g < w.heap.size) :
    Calls Tryz.prog 102 #[.slice A n c] w fun e w' => ∃ v, e = .returned v ∧ w'.ownsRow w.heap.size 22 1 v n L ∧ Below w.heap.size w w' := by
  obtain ⟨i, hi, hz, hs1, hb1⟩ := infoE_N
  have q24 : ∀ w : World, (binOp .eql 41 (.slice A n c) (.slice none 0 0)).run Tryz.prog w = .ok (.bool A.isNone) w := fun w => Lib.run_eql_slice_nil w _ _ A n c 0 0 Tryz.underlying41
  cases A with
  | none =>
    obtain rfl := h.none_
    have h0 : L = [] := List.eq_nil_of_length_eq_zero (by omega)
    subst h0
    clear h hS hL h1 hm
    go_enter Tryz.func102, Tryz.ntmps102
    go_wp2_with fail
    go_ret
    exact ⟨_, rfl, World.ownsRow_nil w _ _ _, Below.refl _ _⟩
  | some ad =>
    have HR := Lib.hid (h.reads hL hS ((Below.refl w.heap.size w).alloc (Nat.le_refl _) (.cells #[] 22)))
    have H1 := Lib.hid h1
    clear h hS hL h1
    go_enter Tryz.func102, Tryz.ntmps102
    go_wp2_with (at_builtin; go_loud (refine wpList_append_any _ rfl _ _ 41 rfl w.heap.size 22 i (.string ByteArray.empty) 1 16 Tryz.underlying41 hi hz hs1 hb1 rfl (by decide) _ 0 [] rfl (World.ownsRow_made w #[] 0 (Nat.le_refl _) (Nat.zero_le _) rfl) _ (some ad) n c L rfl HR.out H1.out (by unfold maxLen; omega) (by omega) (by simp) ?_))
    intro v' w1 hown hgrow hnil
    have HO := Lib.hid (show w1.ownsRow w.heap.size 22 1 v' n L from by simpa using hown)
    have HB := Lib.hid (((Below.refl _ w).alloc (Nat.le_refl _) _).grown hgrow (by simp) (by intro k hk; simp [Value.ownBlock] at hk; omega))
    clear hown hgrow hnil
    go_wp2
    go_ret
    exact ⟨_, rfl, HO.out, HB.out⟩
/-- A request: issuer, schema, nonce, secret, blind. -/
abbrev Az := ByteArray × ByteArray × ByteArray × ByteArray × ByteArray
def cellsA : List Az → List Value
  | [] => []
  | (i, s, n, x, b) :: r => .string i :: .string s :: .string n :: .string x :: .string b :: cellsA r
theorem cellsA_len (l : List Az) : (cellsA l).length = l.length * 5 := by
  induction l with
  | nil => rfl
  | cons x r ih => obtain ⟨i, s, n, x, b⟩ := x; simp only [cellsA, List.length_cons, ih]; omega
theorem cellsA_one (l : List Az) : ∀ u ∈ cellsA l, u.oneCell' = true := by
  induction l with
  | nil => intro u hu; cases hu
  | cons x r ih =>
    obtain ⟨i, s, n, x, b⟩ := x
    intro u hu
    simp only [cellsA, List.mem_cons] at hu
    rcases hu with rfl | rfl | rfl | rfl | rfl | hu
    · rfl
    · rfl
    · rfl
    · rfl
    · rfl
    · exact ih u hu
def cellsN (l : List ByteArray) : List Value := l.map Value.string
theorem cellsN_len (l : List ByteArray) : (cellsN l).length = l.length * 1 := by unfold cellsN; simp
theorem cellsN_one (l : List ByteArray) : ∀ u ∈ cellsN l, u.oneCell' = true := by
  intro u hu
  obtain ⟨x, _, rfl⟩ := List.mem_map.1 hu
  rfl
/-- A credential that is held. -/
structure Hz where
  iss : ByteArray
  sch : ByteArray
  ver : Int
  att : List ByteArray
  a : ByteArray
  e : ByteArray
  v : ByteArray
  ep : Int
  wit : ByteArray
/-- The cells of credentials. -/
def RelH (w : World) (S : Nat → Prop) : List Hz → List Value → Prop
  | [], L => L = []
  | h :: r, L => ∃ A c R, L = .string h.iss :: .string h.sch :: .int .i64 h.ver :: .slice A h.att.length c :: .string h.a :: .string h.e :: .string h.v :: .int .i64 h.ep :: .string h.wit :: R ∧ RowC w S A h.att.length (cellsN h.att) ∧ RelH w S r R
section
variable {w w' : World} {S S' : Nat → Prop} {hs : List Hz} {L : List Value}
theorem RelH.keep (h : RelH w S hs L) (hk : ∀ p : Addr, S p.block → w'.cell? p = w.cell? p) : RelH w' S hs L := by
  induction hs generalizing L with
  | nil => exact h
  | cons x r ih =>
    obtain ⟨A, c, R, e, h1, h2⟩ := h
    exact ⟨A, c, R, e, h1.keep hk, ih h2⟩
theorem RelH.mono (h : RelH w S hs L) (hm : ∀ g, S g → S' g) : RelH w S' hs L := by
  induction hs generalizing L with
  | nil => exact h
  | cons x r ih =>
    obtain ⟨A, c, R, e, h1, h2⟩ := h
    exact ⟨A, c, R, e, h1.mono hm, ih h2⟩
theorem RelH.length (h : RelH w S hs L) : L.length = hs.length * 9 := by
  induction hs generalizing L with
  | nil => cases h; rfl
  | cons x r ih =>
    obtain ⟨A, c, R, e, h1, h2⟩ := h
    rw [e]
    simp only [List.length_cons, ih h2]
    omega
theorem RelH.one (h : RelH w S hs L) : ∀ v ∈ L, v.oneCell' = true := by
  induction hs generalizing L with
  | nil => cases h; simp
  | cons x r ih =>
    obtain ⟨A, c, R, e, h1, h2⟩ := h
    rw [e]
    intro v hv
    simp only [List.mem_cons] at hv
    rcases hv with rfl | rfl | rfl | rfl | rfl | rfl | rfl | rfl | rfl | hv
    · rfl
    · rfl
    · rfl
    · rfl
    · rfl
    · rfl
    · rfl
    · rfl
    · rfl
    · exact ih h2 v hv
theorem RelH.app {a b : List Hz} {La Lb : List Value} (h1 : RelH w S a La) (h2 : RelH w S b Lb) : RelH w S (a ++ b) (La ++ Lb) := by
  induction a generalizing La with
  | nil => cases h1; exact h2
  | cons x r ih =>
    obtain ⟨A, c, R, e, g1, g2⟩ := h1
    exact ⟨A, c, R ++ Lb, by rw [e]; rfl, g1, ih g2⟩
/-- The nine cells of a credential. -/
def cellsH (x : Hz) (A : Option Addr) (c : Nat) : List Value := [.string x.iss, .string x.sch, .int .i64 x.ver, .slice A x.att.length c, .string x.a, .string x.e, .string x.v, .int .i64 x.ep, .string x.wit]
theorem RelH.single {x : Hz} {A : Option Addr} {c : Nat} (h : RowC w S A x.att.length (cellsN x.att)) : RelH w S [x] (cellsH x A c) := ⟨A, c, [], rfl, h, rfl⟩
theorem RelH.split {k : Nat} {x : Hz} (h : RelH w S hs L) (hx : hs[k]? = some x) : ∃ La A c Lb, L = La ++ (cellsH x A c ++ Lb) ∧ RelH w S (hs.take k) La ∧ RowC w S A x.att.length (cellsN x.att) ∧ RelH w S (hs.drop (k + 1)) Lb := by
  induction hs generalizing L k with
  | nil => simp at hx
  | cons y r ih =>
    obtain ⟨A, c, R, e, h1, h2⟩ := h
    cases k with
    | zero =>
      simp only [List.getElem?_cons_zero, Option.some.injEq] at hx
      subst hx
      exact ⟨[], A, c, R, by rw [e]; rfl, rfl, h1, h2⟩
    | succ k =>
      simp only [List.getElem?_cons_succ] at hx
      obtain ⟨La, A2, c2, Lb, e2, g1, g2, g3⟩ := ih h2 hx
      exact ⟨cellsH y A c ++ La, A2, c2, Lb, by rw [e, e2]; rfl, ⟨A, c, La, rfl, h1, g1⟩, g2, g3⟩
end
/-- A slice of requests, a slice of credentials. -/
def SlA (w : World) (S : Nat → Prop) (A : Option Addr) (qs : List Az) : Prop := RowC w S A qs.length (cellsA qs)
def SlH (w : World) (S : Nat → Prop) (A : Option Addr) (hs : List Hz) : Prop := ∃ L, RowC w S A hs.length L ∧ RelH w S hs L
section
variable {w w' : World} {S S' : Nat → Prop} {A : Option Addr} {hs : List Hz}
theorem SlH.keep (h : SlH w S A hs) (hk : ∀ p : Addr, S p.block → w'.cell? p = w.cell? p) : SlH w' S A hs := by
  obtain ⟨L, h1, h2⟩ := h
  exact ⟨L, h1.keep hk, h2.keep hk⟩
theorem SlH.mono (h : SlH w S A hs) (hm : ∀ g, S g → S' g) : SlH w S' A hs := by
  obtain ⟨L, h1, h2⟩ := h
  exact ⟨L, h1.mono hm, h2.mono hm⟩
end
section
variable {w w' : World} {base : Nat} {e : TypeId} {size : Nat} {v : Value} {n : Nat} {xs : List Value}
theorem owns_below (h : w.ownsRow base e size v n xs) (hb : Below w.heap.size w w') : w'.ownsRow base e size v n xs := by
  refine ⟨h.1, ?_⟩
  rcases h.2 with hn | ⟨g, cap, cur, rfl, h3, hg, rest⟩
  · exact .inl hn
  · exact .inr ⟨g, cap, cur, rfl, h3, (hb.block g (Array.getElem?_eq_some_iff.1 hg).1).trans hg, rest⟩
theorem owns_set (h : w.ownsRow base e size v n xs) {p : Addr} (hp : v.ownBlock ≠ some p.block) (u : Value) : (w.setCell p u).ownsRow base e size v n xs := by
  refine ⟨h.1, ?_⟩
  rcases h.2 with hn | ⟨g, cap, cur, rfl, h3, hg, rest⟩
  · exact .inl hn
  · exact .inr ⟨g, cap, cur, rfl, h3, (heap_setCell_other _ _ _ _ (fun e => hp (by rw [← e]; rfl))).trans hg, rest⟩
theorem owns_grown {r : Option Nat} (h : w.ownsRow base e size v n xs) (hg : w.grownBy w' r) (hr : ∀ g, v.ownBlock = some g → r ≠ some g) : w'.ownsRow base e size v n xs := by
  refine h.kept hg ?_
  cases hv : v.ownBlock with
  | none => exact .inl rfl
  | some g => exact .inr (fun e => hr g hv e.symm)
theorem owns_mono {base' : Nat} (h : w.ownsRow base e size v n xs) (hb : base' ≤ base) : w.ownsRow base' e size v n xs := by
  refine ⟨h.1, ?_⟩
  rcases h.2 with hn | ⟨g, cap, cur, rfl, h3, rest⟩
  · exact .inl hn
  · exact .inr ⟨g, cap, cur, rfl, Nat.le_trans hb h3, rest⟩
theorem owns_shape (h : w.ownsRow base e size v n xs) : ∃ A c, v = .slice A n c := by
  rcases h.2 with ⟨rfl, h0⟩ | ⟨g, cap, cur, rfl, _⟩
  · exact ⟨none, 0, by rw [h0]⟩
  · exact ⟨_, _, rfl⟩
theorem owns_row {A : Option Addr} {c : Nat} (h : w.ownsRow base e size (.slice A n c) n xs) : RowC w (fun g => base ≤ g ∧ g < w.heap.size) A n xs := by
  intro hn
  rcases h.2 with ⟨hv, h0⟩ | ⟨g, cap, cur, hv, hb, hg, _⟩
  · omega
  · injection hv with h1 _ h3
    subst h1
    refine ⟨g, 0, rfl, ⟨hb, (Array.getElem?_eq_some_iff.1 hg).1⟩, fun j u hu => ?_⟩
    have := h.cells (g := g) rfl j u hu
    rwa [addr_add] at this
end
/-- A wallet of the call's own. -/
structure OwnW (w : World) (base : Nat) (qs : List Az) (hs : List Hz) (us : List Uz) (vA vH vU : Value) : Prop where
  a : w.ownsRow base 40 5 vA qs.length (cellsA qs)
  h : ∃ L, w.ownsRow base 47 9 vH hs.length L ∧ RelH w (fun g => base ≤ g ∧ g < w.heap.size ∧ vA.ownBlock ≠ some g ∧ vH.ownBlock ≠ some g ∧ vU.ownBlock ≠ some g) hs L
  u : w.ownsRow base 57 3 vU us.length (cellsU us)
  ah : ∀ g, vA.ownBlock = some g → vH.ownBlock ≠ some g
  au : ∀ g, vA.ownBlock = some g → vU.ownBlock ≠ some g
  hu : ∀ g, vH.ownBlock = some g → vU.ownBlock ≠ some g
/-- A wallet in memory. -/
structure WalM (w : World) (S : Nat → Prop) (qs : List Az) (hs : List Hz) (us : List Uz) (Aa Ah Au : Option Addr) : Prop where
  a : SlA w S Aa qs
  h : SlH w S Ah hs
  u : SlU w S Au us
theorem WalM.keep {w w' : World} {S : Nat → Prop} {qs : List Az} {hs : List Hz} {us : List Uz} {Aa Ah Au : Option Addr} (h : WalM w S qs hs us Aa Ah Au) (hk : ∀ p : Addr, S p.block → w'.cell? p = w.cell? p) : WalM w' S qs hs us Aa Ah Au :=
  ⟨RowC.keep h.a hk, h.h.keep hk, RowC.keep h.u hk⟩
theorem WalM.mono {w : World} {S S' : Nat → Prop} {qs : List Az} {hs : List Hz} {us : List Uz} {Aa Ah Au : Option Addr} (h : WalM w S qs hs us Aa Ah Au) (hm : ∀ g, S g → S' g) : WalM w S' qs hs us Aa Ah Au :=
  ⟨RowC.mono h.a hm, h.h.mono hm, RowC.mono h.u hm⟩
theorem OwnW.form {w : World} {base : Nat} {qs : List Az} {hs : List Hz} {us : List Uz} {Aa Ah Au : Option Addr} {ca ch cu : Nat} (h : OwnW w base qs hs us (.slice Aa qs.length ca) (.slice Ah hs.length ch) (.slice Au us.length cu)) : WalM w (fun g => base ≤ g ∧ g < w.heap.size) qs hs us Aa Ah Au := by
  obtain ⟨L, h1, h2⟩ := h.h
  exact ⟨owns_row h.a, ⟨L, owns_row h1, h2.mono fun g hg => ⟨hg.1, hg.2.1⟩⟩, owns_row h.u⟩
/-- Every cell's value stands. -/
def CellsStand (w w' : World) : Prop := ∀ q v, w.cell? q = some v → w'.cell? q = some v
theorem CellsStand.refl (w : World) : CellsStand w w := fun _ _ h => h
theorem CellsStand.drew {a w : World} (h : CellsStand a w) : CellsStand a w.drew := h
theorem CellsStand.alloc {a w : World} (h : CellsStand a w) (o : Obj) : CellsStand a (w.alloc o) := by
  intro q v hq
  have h1 := h q v hq
  unfold World.cell? at h1 ⊢
  have hlt : q.block < w.heap.size := by
    rcases Nat.lt_or_ge q.block w.heap.size with h' | h'
    · exact h'
    · rw [Array.getElem?_eq_none h'] at h1; cases h1
  rw [Lib.alloc_old w o q.block hlt]
  exact h1
theorem CellsStand.freeze {a w : World} (h : CellsStand a w) (p : Addr) (n : Nat) : CellsStand a (w.freeze p n) := by
  intro q v hq
  have h1 := h q v hq
  unfold World.freeze
  split
  · exact h1
  · by_cases hpk : p.block = q.block
    · unfold World.cell? at h1 ⊢
      cases hb : w.heap[q.block]? with
      | none => rw [hb] at h1; cases h1
      | some o =>
        rw [hb] at h1
        simp only [Array.getElem?_modify, hpk, if_true, hb, Option.map_some]
        cases o <;> first | exact h1 | (cases h1)
    · unfold World.cell? at h1 ⊢
      simp only [Array.getElem?_modify, hpk, if_false]
      exact h1
theorem bUS (W : World) (q : Option Addr) : (Builtin.unsafeString_ #[194, 3] 9 #[.pointer q, .int .i64 0]).run Tryz.prog W = .ok (.string .empty) W :=
  Lib.run_unsafeString_none W _ _ _ q
theorem bString_nil (B b : Nat) (p : Value) (w : World) (hbk : w.heap[b]? = some (.cells #[p, .slice none 0 0] 187 (0, 0))) :
    Calls Tryz.prog 145 #[.pointer (some ⟨b, 0, none⟩)] w fun e w' => e = .returned (.string ⟨#[]⟩) ∧ Below B w w' ∧ CellsStand w w' := by
  have hUS := bUS
  have c1 : w.drew.cell? ⟨b, 1, none⟩ = some (.slice none 0 0) := by
    have : w.drew.heap[b]? = some (.cells #[p, .slice none 0 0] 187 (0, 0)) := hbk
    rw [Lib.cell_of_heap this]; rfl
  have hSD : (Builtin.unsafeSliceData_ #[183] 194 #[.slice none 0 0]).run Tryz.prog w.drew = .ok (.pointer none) w.drew := rfl
  go_enter Tryz.func145, Tryz.ntmps145
  go_wp2
  go_region
  all_goals (go_wp2; go_ret; exact ⟨rfl, Below.drew (Below.refl B w), (CellsStand.refl w).drew⟩)
theorem bString_noroom (B b g : Nat) (p : Value) (cur : Array Value) (w : World) (hBw : B ≤ w.heap.size) (hbk : w.heap[b]? = some (.cells #[p, .slice (some ⟨g, 0, none⟩) 0 0] 187 (0, 0))) (hg : w.heap[g]? = some (.cells cur 5 (0, 0))) :
    Calls Tryz.prog 145 #[.pointer (some ⟨b, 0, none⟩)] w fun e w' => e = .returned (.string ⟨#[]⟩) ∧ Below B w w' ∧ CellsStand w w' := by
  have hUS := bUS
  have hlt : b < w.heap.size := by
    rcases Nat.lt_or_ge b w.heap.size with h' | h'
    · exact h'
    · simp [Array.getElem?_eq_none h'] at hbk
  have c1 : w.drew.cell? ⟨b, 1, none⟩ = some (.slice (some ⟨g, 0, none⟩) 0 0) := by
    have : w.drew.heap[b]? = some (.cells #[p, .slice (some ⟨g, 0, none⟩) 0 0] 187 (0, 0)) := hbk
    rw [Lib.cell_of_heap this]; rfl
  have hSD : (Builtin.unsafeSliceData_ #[183] 194 #[.slice (some ⟨g, 0, none⟩) 0 0]).run Tryz.prog w.drew = .ok (.pointer (some ⟨w.drew.heap.size, 0, none⟩)) (w.drew.alloc (.view ⟨g, 0, none⟩ 5)) :=
    Lib.run_unsafeSliceData_zero w.drew _ _ 5 Tryz.underlying194 ⟨g, 0, none⟩ 0 (5, cur.size) (by have hg' : w.drew.heap[g]? = some (.cells cur 5 (0, 0)) := hg; simp [World.shape?, hg'])
  have c2 : (w.drew.alloc (.view ⟨g, 0, none⟩ 5)).cell? ⟨b, 1, none⟩ = some (.slice (some ⟨g, 0, none⟩) 0 0) := by
    have : (w.drew.alloc (.view ⟨g, 0, none⟩ 5)).heap[b]? = _ := (Lib.alloc_old w.drew _ b hlt).trans hbk
    rw [Lib.cell_of_heap this]; rfl
  have c3 : (w.alloc (.view ⟨g, 0, none⟩ 5)).drew.cell? ⟨b, 1, none⟩ = some (.slice (some ⟨g, 0, none⟩) 0 0) := c2
  have c0 : w.cell? ⟨b, 1, none⟩ = some (.slice (some ⟨g, 0, none⟩) 0 0) := c1
  go_enter Tryz.func145, Tryz.ntmps145
  go_wp2
  go_region
  all_goals (go_wp2; go_ret; exact ⟨rfl, (Below.drew (Below.refl B w)).alloc hBw _, ((CellsStand.refl w).drew).alloc _⟩)
theorem bString_room (B b g cap : Nat) (p : Value) (w : World) (hc0 : cap ≠ 0) (hbk : w.heap[b]? = some (.cells #[p, .slice (some ⟨g, 0, none⟩) 0 cap] 187 (0, 0))) :
    Calls Tryz.prog 145 #[.pointer (some ⟨b, 0, none⟩)] w fun e w' => e = .returned (.string ⟨#[]⟩) ∧ Below B w w' ∧ CellsStand w w' := by
  have hUS := bUS
  have c1 : w.drew.cell? ⟨b, 1, none⟩ = some (.slice (some ⟨g, 0, none⟩) 0 cap) := by
    have : w.drew.heap[b]? = some (.cells #[p, .slice (some ⟨g, 0, none⟩) 0 cap] 187 (0, 0)) := hbk
    rw [Lib.cell_of_heap this]; rfl
  have hSD : (Builtin.unsafeSliceData_ #[183] 194 #[.slice (some ⟨g, 0, none⟩) 0 cap]).run Tryz.prog w.drew = .ok (.pointer (some ⟨g, 0, none⟩)) w.drew :=
    Lib.run_unsafeSliceData_row _ _ _ _ _ _ hc0
  clear hc0
  go_enter Tryz.func145, Tryz.ntmps145
  go_wp2
  go_region
  all_goals (go_wp2; go_ret; exact ⟨rfl, Below.drew (Below.refl B w), (CellsStand.refl w).drew⟩)
theorem bString_bytes (B b : Nat) (l : List UInt8) (w : World) (h : Lib.IsBuilder 187 5 B b (Lib.byteCells l) w) (h0 : l ≠ []) :
    Calls Tryz.prog 145 #[.pointer (some ⟨b, 0, none⟩)] w fun e w' => e = .returned (.string ⟨l.toArray⟩) ∧ Below B w w' ∧ CellsStand w w' := by
  obtain ⟨p, hB, v, hbk, hown, hne⟩ : ∃ p, Lib.BuilderAt 187 5 B b p (Lib.byteCells l) w := by
    rcases h with h | h
    · exact ⟨_, h⟩
    · exact ⟨_, h⟩
  have hl0 : l.length ≠ 0 := by simpa using h0
  rw [Lib.byteCells_length] at hown
  obtain ⟨g, cap, cur, rfl, hbg, hg, hnc, hcm, hcs, htake⟩ : ∃ g cap cur, v = .slice (some ⟨g, 0, none⟩) l.length cap ∧ B ≤ g ∧ w.heap[g]? = some (.cells cur 5 (0, 0)) ∧ l.length ≤ cap ∧ cap ≤ maxLen ∧ cur.size = cap * 1 ∧ cur.toList.take (l.length * 1) = Lib.byteCells l := by
    rcases hown.2 with ⟨_, hz⟩ | ⟨g, cap, cur, hv, r⟩
    · exact absurd hz hl0
    · exact ⟨g, cap, cur, hv, r⟩
  have c1 : w.drew.cell? ⟨b, 1, none⟩ = some (.slice (some ⟨g, 0, none⟩) l.length cap) := by
    have : w.drew.heap[b]? = some (.cells #[p, .slice (some ⟨g, 0, none⟩) l.length cap] 187 (0, 0)) := hbk
    rw [Lib.cell_of_heap this]; rfl
  have hSD : (Builtin.unsafeSliceData_ #[183] 194 #[.slice (some ⟨g, 0, none⟩) l.length cap]).run Tryz.prog w.drew = .ok (.pointer (some ⟨g, 0, none⟩)) w.drew :=
    Lib.run_unsafeSliceData_row _ _ _ _ _ _ (by omega)
  have hUS : (Builtin.unsafeString_ #[194, 3] 9 #[.pointer (some ⟨g, 0, none⟩), .int .i64 l.length]).run Tryz.prog w.drew = .ok (.string ⟨l.toArray⟩) (w.drew.freeze ⟨g, 0, none⟩ l.length) := by
    refine Lib.run_unsafeString_row w.drew 194 3 9 5 Tryz.underlying194 (by kernel_rfl) g cur.size (by have hg' : w.drew.heap[g]? = some (.cells cur 5 (0, 0)) := hg; simp [World.shape?, hg']) l h0 (by omega) (by unfold maxLen at hcm; omega) ?_
    intro j x hx
    have := hown.cells (g := g) rfl j (.int .u8 x.toNat) (by simp [Lib.byteCells, hx])
    exact this
  go_enter Tryz.func145, Tryz.ntmps145
  go_wp2
  go_region
  all_goals (go_wp2; go_ret; exact ⟨rfl, Lib.below_freeze (Below.drew (Below.refl B w)) (p := ⟨g, 0, none⟩) hbg _, ((CellsStand.refl w).drew).freeze _ _⟩)
theorem builder_String (B b : Nat) (l : List UInt8) (w : World) (h : Lib.IsBuilder 187 5 B b (Lib.byteCells l) w) (hBw : B ≤ w.heap.size) :
    Calls Tryz.prog 145 #[.pointer (some ⟨b, 0, none⟩)] w fun e w' => e = .returned (.string ⟨l.toArray⟩) ∧ Below B w w' ∧ CellsStand w w' := by
  cases l with
  | cons x r => exact bString_bytes B b (x :: r) w h (by simp)
  | nil =>
    obtain ⟨p, hB, v, hbk, hown, hne⟩ : ∃ p, Lib.BuilderAt 187 5 B b p [] w := by
      rcases h with h | h
      · exact ⟨_, h⟩
      · exact ⟨_, h⟩
    rcases hown.2 with ⟨rfl, _⟩ | ⟨g, cap, cur, rfl, hbg, hg, _, _, _, _⟩
    · exact bString_nil B b p w hbk
    · by_cases hc0 : cap = 0
      · subst hc0
        exact bString_noroom B b g p cur w hBw hbk hg
      · exact bString_room B b g cap p w hc0 hbk
end Go.Proofs.YtjhlddlocpkhkaaGreat
