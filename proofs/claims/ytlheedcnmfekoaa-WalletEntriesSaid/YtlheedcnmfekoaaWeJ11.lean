/- Wallet: slices.Clone of rows of requests, credentials, counts and numbers. Wallet: requests and credentials in memory; wallets of the call's own. Wallet: numbers; what valid computes. -/
import Derived.Test.YtlheedcnmfekoaaWeJ10
import Derived.Deep.DeepCutAuto
import Derived.Deep.CutBlock
namespace Go.Proofs.Ytlheedcnmfekoaa
open Go.RowKit
set_option maxRecDepth 100000
set_option linter.unusedVariables false
set_option maxHeartbeats 4000000
theorem RowC.none_ {w : World} {S : Nat → Prop} {n : Nat} {L : List Value} (h : RowC w S none n L) : n = 0 := by
  cases n with
  | zero => rfl
  | succ n => obtain ⟨g, off, e, _⟩ := h (by omega); cases e
theorem RowC.reads {w w' : World} {S : Nat → Prop} {A : Option Addr} {n k : Nat} {L : List Value} (h : RowC w S A n L) (hL : L.length = n * k) (hS : ∀ g, S g → g < w.heap.size) (hb : Below w.heap.size w w') : Reads w' w'.heap.size k A n L := ⟨hL, fun hx => by
  obtain ⟨g, off, e, hg, hc⟩ := h hx
  refine ⟨_, e, Nat.lt_of_lt_of_le (hS g hg) hb.size, fun j u hu => ?_⟩
  rw [addr_add]
  exact (hb.cell (p := ⟨g, off + j, none⟩) (hS g hg)).trans (hc j u hu)⟩
theorem infoE_A : ∃ i : TypeInfo, Try.prog.info? 37 = some i ∧ i.zero = some (.agg #[.string ByteArray.empty, .string ByteArray.empty, .string ByteArray.empty, .string ByteArray.empty, .string ByteArray.empty]) ∧ i.size = 5 ∧ i.bytes = 80 := by
  have h : (Try.prog.info? 37).map (fun i => (i.zero, i.size, i.bytes)) = some (some (.agg #[.string ByteArray.empty, .string ByteArray.empty, .string ByteArray.empty, .string ByteArray.empty, .string ByteArray.empty]), 5, 80) := by kernel_rfl
  obtain ⟨i, h1, h2, h3, h4⟩ := info_parts h
  exact ⟨i, h1, h2, h3, h4⟩
theorem cloneR_A (L : List Value) (A : Option Addr) (n c : Nat) (S : Nat → Prop) (w : World) (hL : L.length = n * 5) (h1 : ∀ u ∈ L, u.oneCell' = true) (hm : n ≤ 100000) (h : RowC w S A n L) (hS : ∀ g, S g → g < w.heap.size) :
    Calls Try.prog 61 #[.slice A n c] w fun e w' => ∃ v, e = .returned v ∧ w'.ownsRow w.heap.size 37 5 v n L ∧ Below w.heap.size w w' := by
  obtain ⟨i, hi, hz, hs1, hb1⟩ := infoE_A
  have q24 : ∀ w : World, (binOp .eql 24 (.slice A n c) (.slice none 0 0)).run Try.prog w = .ok (.bool A.isNone) w := fun w => Lib.run_eql_slice_nil w _ _ A n c 0 0 Try.underlying24
  cases A with
  | none =>
    obtain rfl := h.none_
    have h0 : L = [] := List.eq_nil_of_length_eq_zero (by omega)
    subst h0
    clear h hS hL h1 hm
    go_enter Try.func61, Try.ntmps61
    go_wp2_with fail
    go_ret
    exact ⟨_, rfl, World.ownsRow_nil w _ _ _, Below.refl _ _⟩
  | some ad =>
    have HR := Lib.hid (h.reads hL hS ((Below.refl w.heap.size w).alloc (Nat.le_refl _) (.cells #[] 37)))
    have H1 := Lib.hid h1
    clear h hS hL h1
    go_enter Try.func61, Try.ntmps61
    go_wp2_with (at_builtin; go_loud (refine wpList_append_any _ rfl _ _ 24 rfl w.heap.size 37 i (.agg #[.string ByteArray.empty, .string ByteArray.empty, .string ByteArray.empty, .string ByteArray.empty, .string ByteArray.empty]) 5 80 Try.underlying24 hi hz hs1 hb1 rfl (by decide) _ 0 [] rfl (World.ownsRow_made w #[] 0 (Nat.le_refl _) (Nat.zero_le _) rfl) _ (some ad) n c L rfl HR.out H1.out (by unfold maxLen; omega) (by omega) (by simp) ?_))
    intro v' w1 hown hgrow hnil
    have HO := Lib.hid (show w1.ownsRow w.heap.size 37 5 v' n L from by simpa using hown)
    have HB := Lib.hid (((Below.refl _ w).alloc (Nat.le_refl _) _).grown hgrow (by simp) (by intro k hk; simp [Value.ownBlock] at hk; omega))
    clear hown hgrow hnil
    go_wp2
    go_ret
    exact ⟨_, rfl, HO.out, HB.out⟩
theorem infoE_H : ∃ i : TypeInfo, Try.prog.info? 44 = some i ∧ i.zero = some (.agg #[.string ByteArray.empty, .string ByteArray.empty, .int .i64 0, .slice none 0 0, .string ByteArray.empty, .string ByteArray.empty, .string ByteArray.empty, .int .i64 0, .string ByteArray.empty]) ∧ i.size = 9 ∧ i.bytes = 136 := by
  have h : (Try.prog.info? 44).map (fun i => (i.zero, i.size, i.bytes)) = some (some (.agg #[.string ByteArray.empty, .string ByteArray.empty, .int .i64 0, .slice none 0 0, .string ByteArray.empty, .string ByteArray.empty, .string ByteArray.empty, .int .i64 0, .string ByteArray.empty]), 9, 136) := by kernel_rfl
  obtain ⟨i, h1, h2, h3, h4⟩ := info_parts h
  exact ⟨i, h1, h2, h3, h4⟩
theorem cloneR_H (L : List Value) (A : Option Addr) (n c : Nat) (S : Nat → Prop) (w : World) (hL : L.length = n * 9) (h1 : ∀ u ∈ L, u.oneCell' = true) (hm : n ≤ 100000) (h : RowC w S A n L) (hS : ∀ g, S g → g < w.heap.size) :
    Calls Try.prog 62 #[.slice A n c] w fun e w' => ∃ v, e = .returned v ∧ w'.ownsRow w.heap.size 44 9 v n L ∧ Below w.heap.size w w' := by
  obtain ⟨i, hi, hz, hs1, hb1⟩ := infoE_H
  have q24 : ∀ w : World, (binOp .eql 25 (.slice A n c) (.slice none 0 0)).run Try.prog w = .ok (.bool A.isNone) w := fun w => Lib.run_eql_slice_nil w _ _ A n c 0 0 Try.underlying25
  cases A with
  | none =>
    obtain rfl := h.none_
    have h0 : L = [] := List.eq_nil_of_length_eq_zero (by omega)
    subst h0
    clear h hS hL h1 hm
    go_enter Try.func62, Try.ntmps62
    go_wp2_with fail
    go_ret
    exact ⟨_, rfl, World.ownsRow_nil w _ _ _, Below.refl _ _⟩
  | some ad =>
    have HR := Lib.hid (h.reads hL hS ((Below.refl w.heap.size w).alloc (Nat.le_refl _) (.cells #[] 44)))
    have H1 := Lib.hid h1
    clear h hS hL h1
    go_enter Try.func62, Try.ntmps62
    go_wp2_with (at_builtin; go_loud (refine wpList_append_any _ rfl _ _ 25 rfl w.heap.size 44 i (.agg #[.string ByteArray.empty, .string ByteArray.empty, .int .i64 0, .slice none 0 0, .string ByteArray.empty, .string ByteArray.empty, .string ByteArray.empty, .int .i64 0, .string ByteArray.empty]) 9 136 Try.underlying25 hi hz hs1 hb1 rfl (by decide) _ 0 [] rfl (World.ownsRow_made w #[] 0 (Nat.le_refl _) (Nat.zero_le _) rfl) _ (some ad) n c L rfl HR.out H1.out (by unfold maxLen; omega) (by omega) (by simp) ?_))
    intro v' w1 hown hgrow hnil
    have HO := Lib.hid (show w1.ownsRow w.heap.size 44 9 v' n L from by simpa using hown)
    have HB := Lib.hid (((Below.refl _ w).alloc (Nat.le_refl _) _).grown hgrow (by simp) (by intro k hk; simp [Value.ownBlock] at hk; omega))
    clear hown hgrow hnil
    go_wp2
    go_ret
    exact ⟨_, rfl, HO.out, HB.out⟩
theorem infoE_U : ∃ i : TypeInfo, Try.prog.info? 56 = some i ∧ i.zero = some (.agg #[.string ByteArray.empty, .int .i64 0, .int .i64 0]) ∧ i.size = 3 ∧ i.bytes = 32 := by
  have h : (Try.prog.info? 56).map (fun i => (i.zero, i.size, i.bytes)) = some (some (.agg #[.string ByteArray.empty, .int .i64 0, .int .i64 0]), 3, 32) := by kernel_rfl
  obtain ⟨i, h1, h2, h3, h4⟩ := info_parts h
  exact ⟨i, h1, h2, h3, h4⟩
theorem cloneR_U (L : List Value) (A : Option Addr) (n c : Nat) (S : Nat → Prop) (w : World) (hL : L.length = n * 3) (h1 : ∀ u ∈ L, u.oneCell' = true) (hm : n ≤ 100000) (h : RowC w S A n L) (hS : ∀ g, S g → g < w.heap.size) :
    Calls Try.prog 63 #[.slice A n c] w fun e w' => ∃ v, e = .returned v ∧ w'.ownsRow w.heap.size 56 3 v n L ∧ Below w.heap.size w w' := by
  obtain ⟨i, hi, hz, hs1, hb1⟩ := infoE_U
  have q24 : ∀ w : World, (binOp .eql 26 (.slice A n c) (.slice none 0 0)).run Try.prog w = .ok (.bool A.isNone) w := fun w => Lib.run_eql_slice_nil w _ _ A n c 0 0 Try.underlying26
  cases A with
  | none =>
    obtain rfl := h.none_
    have h0 : L = [] := List.eq_nil_of_length_eq_zero (by omega)
    subst h0
    clear h hS hL h1 hm
    go_enter Try.func63, Try.ntmps63
    go_wp2_with fail
    go_ret
    exact ⟨_, rfl, World.ownsRow_nil w _ _ _, Below.refl _ _⟩
  | some ad =>
    have HR := Lib.hid (h.reads hL hS ((Below.refl w.heap.size w).alloc (Nat.le_refl _) (.cells #[] 56)))
    have H1 := Lib.hid h1
    clear h hS hL h1
    go_enter Try.func63, Try.ntmps63
    go_wp2_with (at_builtin; go_loud (refine wpList_append_any _ rfl _ _ 26 rfl w.heap.size 56 i (.agg #[.string ByteArray.empty, .int .i64 0, .int .i64 0]) 3 32 Try.underlying26 hi hz hs1 hb1 rfl (by decide) _ 0 [] rfl (World.ownsRow_made w #[] 0 (Nat.le_refl _) (Nat.zero_le _) rfl) _ (some ad) n c L rfl HR.out H1.out (by unfold maxLen; omega) (by omega) (by simp) ?_))
    intro v' w1 hown hgrow hnil
    have HO := Lib.hid (show w1.ownsRow w.heap.size 56 3 v' n L from by simpa using hown)
    have HB := Lib.hid (((Below.refl _ w).alloc (Nat.le_refl _) _).grown hgrow (by simp) (by intro k hk; simp [Value.ownBlock] at hk; omega))
    clear hown hgrow hnil
    go_wp2
    go_ret
    exact ⟨_, rfl, HO.out, HB.out⟩
theorem infoE_N : ∃ i : TypeInfo, Try.prog.info? 23 = some i ∧ i.zero = some (.string ByteArray.empty) ∧ i.size = 1 ∧ i.bytes = 16 := by
  have h : (Try.prog.info? 23).map (fun i => (i.zero, i.size, i.bytes)) = some (some (.string ByteArray.empty), 1, 16) := by kernel_rfl
  obtain ⟨i, h1, h2, h3, h4⟩ := info_parts h
  exact ⟨i, h1, h2, h3, h4⟩
theorem cloneR_N (L : List Value) (A : Option Addr) (n c : Nat) (S : Nat → Prop) (w : World) (hL : L.length = n * 1) (h1 : ∀ u ∈ L, u.oneCell' = true) (hm : n ≤ 100000) (h : RowC w S A n L) (hS : ∀ g, S g → g < w.heap.size) :
    Calls Try.prog 64 #[.slice A n c] w fun e w' => ∃ v, e = .returned v ∧ w'.ownsRow w.heap.size 23 1 v n L ∧ Below w.heap.size w w' := by
  obtain ⟨i, hi, hz, hs1, hb1⟩ := infoE_N
  have q24 : ∀ w : World, (binOp .eql 38 (.slice A n c) (.slice none 0 0)).run Try.prog w = .ok (.bool A.isNone) w := fun w => Lib.run_eql_slice_nil w _ _ A n c 0 0 Try.underlying38
  cases A with
  | none =>
    obtain rfl := h.none_
    have h0 : L = [] := List.eq_nil_of_length_eq_zero (by omega)
    subst h0
    clear h hS hL h1 hm
    go_enter Try.func64, Try.ntmps64
    go_wp2_with fail
    go_ret
    exact ⟨_, rfl, World.ownsRow_nil w _ _ _, Below.refl _ _⟩
  | some ad =>
    have HR := Lib.hid (h.reads hL hS ((Below.refl w.heap.size w).alloc (Nat.le_refl _) (.cells #[] 23)))
    have H1 := Lib.hid h1
    clear h hS hL h1
    go_enter Try.func64, Try.ntmps64
    go_wp2_with (at_builtin; go_loud (refine wpList_append_any _ rfl _ _ 38 rfl w.heap.size 23 i (.string ByteArray.empty) 1 16 Try.underlying38 hi hz hs1 hb1 rfl (by decide) _ 0 [] rfl (World.ownsRow_made w #[] 0 (Nat.le_refl _) (Nat.zero_le _) rfl) _ (some ad) n c L rfl HR.out H1.out (by unfold maxLen; omega) (by omega) (by simp) ?_))
    intro v' w1 hown hgrow hnil
    have HO := Lib.hid (show w1.ownsRow w.heap.size 23 1 v' n L from by simpa using hown)
    have HB := Lib.hid (((Below.refl _ w).alloc (Nat.le_refl _) _).grown hgrow (by simp) (by intro k hk; simp [Value.ownBlock] at hk; omega))
    clear hown hgrow hnil
    go_wp2
    go_ret
    exact ⟨_, rfl, HO.out, HB.out⟩
/-- A request: issuer, schema, nonce, secret, blind. -/
abbrev Az := ByteArray × ByteArray × ByteArray × ByteArray × ByteArray
def cellsA : List Az → List Value
  | [] => []
  | (i, s, n, x, b) :: r => .string i :: .string s :: .string n :: .string x :: .string b :: cellsA r
theorem cellsA_len (l : List Az) : (cellsA l).length = l.length * 5 := by
  induction l with
  | nil => rfl
  | cons x r ih => obtain ⟨i, s, n, x, b⟩ := x; simp only [cellsA, List.length_cons, ih]; omega
theorem cellsA_one (l : List Az) : ∀ u ∈ cellsA l, u.oneCell' = true := by
  induction l with
  | nil => intro u hu; cases hu
  | cons x r ih =>
    obtain ⟨i, s, n, x, b⟩ := x
    intro u hu
    simp only [cellsA, List.mem_cons] at hu
    rcases hu with rfl | rfl | rfl | rfl | rfl | hu
    · rfl
    · rfl
    · rfl
    · rfl
    · rfl
    · exact ih u hu
def cellsN (l : List ByteArray) : List Value := l.map Value.string
theorem cellsN_len (l : List ByteArray) : (cellsN l).length = l.length * 1 := by unfold cellsN; simp
theorem cellsN_one (l : List ByteArray) : ∀ u ∈ cellsN l, u.oneCell' = true := by
  intro u hu
  obtain ⟨x, _, rfl⟩ := List.mem_map.1 hu
  rfl
/-- A credential that is held. -/
structure Hz where
  iss : ByteArray
  sch : ByteArray
  ver : Int
  att : List ByteArray
  a : ByteArray
  e : ByteArray
  v : ByteArray
  ep : Int
  wit : ByteArray
/-- The cells of credentials. -/
def RelH (w : World) (S : Nat → Prop) : List Hz → List Value → Prop
  | [], L => L = []
  | h :: r, L => ∃ A c R, L = .string h.iss :: .string h.sch :: .int .i64 h.ver :: .slice A h.att.length c :: .string h.a :: .string h.e :: .string h.v :: .int .i64 h.ep :: .string h.wit :: R ∧ RowC w S A h.att.length (cellsN h.att) ∧ RelH w S r R
section
variable {w w' : World} {S S' : Nat → Prop} {hs : List Hz} {L : List Value}
theorem RelH.keep (h : RelH w S hs L) (hk : ∀ p : Addr, S p.block → w'.cell? p = w.cell? p) : RelH w' S hs L := by
  induction hs generalizing L with
  | nil => exact h
  | cons x r ih =>
    obtain ⟨A, c, R, e, h1, h2⟩ := h
    exact ⟨A, c, R, e, h1.keep hk, ih h2⟩
theorem RelH.mono (h : RelH w S hs L) (hm : ∀ g, S g → S' g) : RelH w S' hs L := by
  induction hs generalizing L with
  | nil => exact h
  | cons x r ih =>
    obtain ⟨A, c, R, e, h1, h2⟩ := h
    exact ⟨A, c, R, e, h1.mono hm, ih h2⟩
theorem RelH.length (h : RelH w S hs L) : L.length = hs.length * 9 := by
  induction hs generalizing L with
  | nil => cases h; rfl
  | cons x r ih =>
    obtain ⟨A, c, R, e, h1, h2⟩ := h
    rw [e]
    simp only [List.length_cons, ih h2]
    omega
theorem RelH.one (h : RelH w S hs L) : ∀ v ∈ L, v.oneCell' = true := by
  induction hs generalizing L with
  | nil => cases h; simp
  | cons x r ih =>
    obtain ⟨A, c, R, e, h1, h2⟩ := h
    rw [e]
    intro v hv
    simp only [List.mem_cons] at hv
    rcases hv with rfl | rfl | rfl | rfl | rfl | rfl | rfl | rfl | rfl | hv
    · rfl
    · rfl
    · rfl
    · rfl
    · rfl
    · rfl
    · rfl
    · rfl
    · rfl
    · exact ih h2 v hv
theorem RelH.app {a b : List Hz} {La Lb : List Value} (h1 : RelH w S a La) (h2 : RelH w S b Lb) : RelH w S (a ++ b) (La ++ Lb) := by
  induction a generalizing La with
  | nil => cases h1; exact h2
  | cons x r ih =>
    obtain ⟨A, c, R, e, g1, g2⟩ := h1
    exact ⟨A, c, R ++ Lb, by rw [e]; rfl, g1, ih g2⟩
/-- The nine cells of a credential. -/
def cellsH (x : Hz) (A : Option Addr) (c : Nat) : List Value := [.string x.iss, .string x.sch, .int .i64 x.ver, .slice A x.att.length c, .string x.a, .string x.e, .string x.v, .int .i64 x.ep, .string x.wit]
theorem RelH.single {x : Hz} {A : Option Addr} {c : Nat} (h : RowC w S A x.att.length (cellsN x.att)) : RelH w S [x] (cellsH x A c) := ⟨A, c, [], rfl, h, rfl⟩
theorem RelH.split {k : Nat} {x : Hz} (h : RelH w S hs L) (hx : hs[k]? = some x) : ∃ La A c Lb, L = La ++ (cellsH x A c ++ Lb) ∧ RelH w S (hs.take k) La ∧ RowC w S A x.att.length (cellsN x.att) ∧ RelH w S (hs.drop (k + 1)) Lb := by
  induction hs generalizing L k with
  | nil => simp at hx
  | cons y r ih =>
    obtain ⟨A, c, R, e, h1, h2⟩ := h
    cases k with
    | zero =>
      simp only [List.getElem?_cons_zero, Option.some.injEq] at hx
      subst hx
      exact ⟨[], A, c, R, by rw [e]; rfl, rfl, h1, h2⟩
    | succ k =>
      simp only [List.getElem?_cons_succ] at hx
      obtain ⟨La, A2, c2, Lb, e2, g1, g2, g3⟩ := ih h2 hx
      exact ⟨cellsH y A c ++ La, A2, c2, Lb, by rw [e, e2]; rfl, ⟨A, c, La, rfl, h1, g1⟩, g2, g3⟩
end
/-- A slice of requests, a slice of credentials. -/
def SlA (w : World) (S : Nat → Prop) (A : Option Addr) (qs : List Az) : Prop := RowC w S A qs.length (cellsA qs)
def SlH (w : World) (S : Nat → Prop) (A : Option Addr) (hs : List Hz) : Prop := ∃ L, RowC w S A hs.length L ∧ RelH w S hs L
section
variable {w w' : World} {S S' : Nat → Prop} {A : Option Addr} {hs : List Hz}
theorem SlH.keep (h : SlH w S A hs) (hk : ∀ p : Addr, S p.block → w'.cell? p = w.cell? p) : SlH w' S A hs := by
  obtain ⟨L, h1, h2⟩ := h
  exact ⟨L, h1.keep hk, h2.keep hk⟩
theorem SlH.mono (h : SlH w S A hs) (hm : ∀ g, S g → S' g) : SlH w S' A hs := by
  obtain ⟨L, h1, h2⟩ := h
  exact ⟨L, h1.mono hm, h2.mono hm⟩
end
section
variable {w w' : World} {base : Nat} {e : TypeId} {size : Nat} {v : Value} {n : Nat} {xs : List Value}
theorem owns_below (h : w.ownsRow base e size v n xs) (hb : Below w.heap.size w w') : w'.ownsRow base e size v n xs := by
  refine ⟨h.1, ?_⟩
  rcases h.2 with hn | ⟨g, cap, cur, rfl, h3, hg, rest⟩
  · exact .inl hn
  · exact .inr ⟨g, cap, cur, rfl, h3, (hb.block g (Array.getElem?_eq_some_iff.1 hg).1).trans hg, rest⟩
theorem owns_set (h : w.ownsRow base e size v n xs) {p : Addr} (hp : v.ownBlock ≠ some p.block) (u : Value) : (w.setCell p u).ownsRow base e size v n xs := by
  refine ⟨h.1, ?_⟩
  rcases h.2 with hn | ⟨g, cap, cur, rfl, h3, hg, rest⟩
  · exact .inl hn
  · exact .inr ⟨g, cap, cur, rfl, h3, (heap_setCell_other _ _ _ _ (fun e => hp (by rw [← e]; rfl))).trans hg, rest⟩
theorem owns_grown {r : Option Nat} (h : w.ownsRow base e size v n xs) (hg : w.grownBy w' r) (hr : ∀ g, v.ownBlock = some g → r ≠ some g) : w'.ownsRow base e size v n xs := by
  refine h.kept hg ?_
  cases hv : v.ownBlock with
  | none => exact .inl rfl
  | some g => exact .inr (fun e => hr g hv e.symm)
theorem owns_mono {base' : Nat} (h : w.ownsRow base e size v n xs) (hb : base' ≤ base) : w.ownsRow base' e size v n xs := by
  refine ⟨h.1, ?_⟩
  rcases h.2 with hn | ⟨g, cap, cur, rfl, h3, rest⟩
  · exact .inl hn
  · exact .inr ⟨g, cap, cur, rfl, Nat.le_trans hb h3, rest⟩
theorem owns_shape (h : w.ownsRow base e size v n xs) : ∃ A c, v = .slice A n c := by
  rcases h.2 with ⟨rfl, h0⟩ | ⟨g, cap, cur, rfl, _⟩
  · exact ⟨none, 0, by rw [h0]⟩
  · exact ⟨_, _, rfl⟩
theorem owns_row {A : Option Addr} {c : Nat} (h : w.ownsRow base e size (.slice A n c) n xs) : RowC w (fun g => base ≤ g ∧ g < w.heap.size) A n xs := by
  intro hn
  rcases h.2 with ⟨hv, h0⟩ | ⟨g, cap, cur, hv, hb, hg, _⟩
  · omega
  · injection hv with h1 _ h3
    subst h1
    refine ⟨g, 0, rfl, ⟨hb, (Array.getElem?_eq_some_iff.1 hg).1⟩, fun j u hu => ?_⟩
    have := h.cells (g := g) rfl j u hu
    rwa [addr_add] at this
end
/-- A wallet of the call's own. -/
structure OwnW (w : World) (base : Nat) (qs : List Az) (hs : List Hz) (us : List Uz) (vA vH vU : Value) : Prop where
  a : w.ownsRow base 37 5 vA qs.length (cellsA qs)
  h : ∃ L, w.ownsRow base 44 9 vH hs.length L ∧ RelH w (fun g => base ≤ g ∧ g < w.heap.size ∧ vA.ownBlock ≠ some g ∧ vH.ownBlock ≠ some g ∧ vU.ownBlock ≠ some g) hs L
  u : w.ownsRow base 56 3 vU us.length (cellsU us)
  ah : ∀ g, vA.ownBlock = some g → vH.ownBlock ≠ some g
  au : ∀ g, vA.ownBlock = some g → vU.ownBlock ≠ some g
  hu : ∀ g, vH.ownBlock = some g → vU.ownBlock ≠ some g
/-- A wallet in memory. -/
structure WalM (w : World) (S : Nat → Prop) (qs : List Az) (hs : List Hz) (us : List Uz) (Aa Ah Au : Option Addr) : Prop where
  a : SlA w S Aa qs
  h : SlH w S Ah hs
  u : SlU w S Au us
theorem WalM.keep {w w' : World} {S : Nat → Prop} {qs : List Az} {hs : List Hz} {us : List Uz} {Aa Ah Au : Option Addr} (h : WalM w S qs hs us Aa Ah Au) (hk : ∀ p : Addr, S p.block → w'.cell? p = w.cell? p) : WalM w' S qs hs us Aa Ah Au :=
  ⟨RowC.keep h.a hk, h.h.keep hk, RowC.keep h.u hk⟩
theorem WalM.mono {w : World} {S S' : Nat → Prop} {qs : List Az} {hs : List Hz} {us : List Uz} {Aa Ah Au : Option Addr} (h : WalM w S qs hs us Aa Ah Au) (hm : ∀ g, S g → S' g) : WalM w S' qs hs us Aa Ah Au :=
  ⟨RowC.mono h.a hm, h.h.mono hm, RowC.mono h.u hm⟩
theorem OwnW.form {w : World} {base : Nat} {qs : List Az} {hs : List Hz} {us : List Uz} {Aa Ah Au : Option Addr} {ca ch cu : Nat} (h : OwnW w base qs hs us (.slice Aa qs.length ca) (.slice Ah hs.length ch) (.slice Au us.length cu)) : WalM w (fun g => base ≤ g ∧ g < w.heap.size) qs hs us Aa Ah Au := by
  obtain ⟨L, h1, h2⟩ := h.h
  exact ⟨owns_row h.a, ⟨L, owns_row h1, h2.mono fun g hg => ⟨hg.1, hg.2.1⟩⟩, owns_row h.u⟩
def numsH (x : Hz) : List ByteArray := [x.a, x.e, x.v, x.wit] ++ x.att
/-- A credential as a value. -/
def valH (x : Hz) (A : Option Addr) (n c : Nat) : Value := .agg #[.string x.iss, .string x.sch, .int .i64 x.ver, .slice A n c, .string x.a, .string x.e, .string x.v, .int .i64 x.ep, .string x.wit]
theorem wal_numbers (x : Hz) (A : Option Addr) (n c : Nat) (S : Nat → Prop) (w : World) (hn : x.att.length = n) (hm : n ≤ 100000) (h : RowC w S A n (cellsN x.att)) (hS : ∀ g, S g → g < w.heap.size) :
    Calls Try.prog 36 #[valH x A n c] w fun e w' => ∃ A' n' c', e = .returned (.slice A' n' c') ∧ n' = (numsH x).length ∧ SLs w' w'.heap.size A' (numsH x) ∧ Below w.heap.size w w' := by
  obtain ⟨iss, sch, ver, att, a, e, v, ep, wit⟩ := x
  obtain ⟨i, hi, hz, hs1, hb1⟩ := infoE_N
  dsimp only at hn h
  unfold valH
  dsimp only
  obtain ⟨W, hW⟩ : ∃ W, (((w.alloc (.cells #[.string iss, .string sch, .int .i64 ver, .slice A n c, .string a, .string e, .string v, .int .i64 ep, .string wit] 44)).alloc (.cells #[.string a, .string e, .string v] 40)).alloc (.cells #[.string a, .string e, .string v, .string wit] 23)) = W := ⟨_, rfl⟩
  have hbw : Below w.heap.size w W := by rw [← hW]; exact (((Below.refl w.heap.size w).alloc (Nat.le_refl _) _).alloc (by simp) _).alloc (by simp; omega) _
  have HR := Lib.hid (h.reads (k := 1) (by rw [cellsN_len, hn]) hS hbw)
  have hO := World.ownsRow_lit (e := 23) (size := 1) ((w.alloc (.cells #[.string iss, .string sch, .int .i64 ver, .slice A n c, .string a, .string e, .string v, .int .i64 ep, .string wit] 44)).alloc (.cells #[.string a, .string e, .string v] 40)) #[.string a, .string e, .string v, .string wit] 4 (base := w.heap.size) (by simp; omega) (by unfold maxLen; omega) rfl
  rw [hW, World.size_alloc, World.size_alloc] at hO
  have HO := Lib.hid hO
  have hsz : W.heap.size = w.heap.size + 3 := by rw [← hW]; simp
  have HZ := Lib.hid hsz
  have HBW := Lib.hid hbw
  rw [← hW] at HR HO HZ HBW
  have HN := Lib.hid hn
  have H1 := Lib.hid (cellsN_one att)
  clear h hS hn hbw hO hsz hW
  go_enter Try.func36, Try.ntmps36
  go_wp2_with (at_builtin; go_loud (refine wpList_append_any _ rfl _ _ 38 rfl w.heap.size 23 i (.string ByteArray.empty) 1 16 Try.underlying38 hi hz hs1 hb1 rfl (by decide) _ 4 [.string a, .string e, .string v, .string wit] rfl HO.out _ A n c (cellsN att) rfl HR.out H1.out (by unfold maxLen; omega) (by omega) (by simp; omega) ?_))
  intro v' w4 hown hgrow hv
  obtain ⟨A4, c4, rfl⟩ := owns_shape hown
  have hb4 : Below w.heap.size _ w4 := below_grown hgrow (by simp; omega) (fun g hg => (HO.out.lt g hg).1)
  have HB := Lib.hid (HBW.out.trans hb4)
  have HS : Hid (SLs w4 w4.heap.size A4 (numsH ⟨iss, sch, ver, att, a, e, v, ep, wit⟩)) := Lib.hid (by
    have hl : (numsH ⟨iss, sch, ver, att, a, e, v, ep, wit⟩).length = 4 + n := by unfold numsH; simp only [List.length_append]; rw [HN.out]; rfl
    have hc : [Value.string a, .string e, .string v, .string wit] ++ cellsN att = cellsN (numsH ⟨iss, sch, ver, att, a, e, v, ep, wit⟩) := by unfold cellsN numsH; simp
    have hown' : w4.ownsRow w.heap.size 23 1 (.slice A4 (4 + n) c4) (4 + n) (cellsN (numsH ⟨iss, sch, ver, att, a, e, v, ep, wit⟩)) := by
      rw [← hc]
      exact hown
    intro hne
    obtain ⟨g, off, e1, hg, hcell⟩ := owns_row hown' (by omega)
    refine ⟨_, e1, hg.2, fun j hj => ?_⟩
    rw [addr_add]
    refine hcell j _ ?_
    unfold cellsN
    rw [List.getElem?_map, List.getD_eq_getElem?_getD, List.getElem?_eq_getElem hj]
    rfl)
  have HL : Hid (4 + n = (numsH ⟨iss, sch, ver, att, a, e, v, ep, wit⟩).length) := Lib.hid (by unfold numsH; simp only [List.length_append]; rw [HN.out]; rfl)
  clear hown hgrow hv hb4
  go_wp2
  go_ret
  exact ⟨A4, _, c4, rfl, HL.out, HS.out, HB.out⟩
def okA (x : Az) : Bool := [x.2.2.2.1, x.2.2.2.2].all valid
def validA : List ByteArray → List Az → Bool
  | _, [] => true
  | seen, x :: r => if (seen.any fun y => keyS.same y x.2.2.1) = true then false else if okA x = true then validA (x.2.2.1 :: seen) r else false
def okH (x : Hz) : Bool := (numsH x).all valid
noncomputable def validU : List (ByteArray × Int) → List Uz → Bool
  | _, [] => true
  | seen, x :: r => if x.2.2 < 1 then false else if (seen.any fun y => keyP.same y (x.1, x.2.1)) = true then false else validU ((x.1, x.2.1) :: seen) r
noncomputable def validW (sec : ByteArray) (qs : List Az) (hs : List Hz) (us : List Uz) : Bool := [sec].all valid && (validA [] qs && (hs.all okH && validU [] us))
end Go.Proofs.Ytlheedcnmfekoaa
