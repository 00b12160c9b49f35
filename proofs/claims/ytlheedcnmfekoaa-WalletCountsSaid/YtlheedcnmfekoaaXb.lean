/- Wallet: slices.Clone of rows of requests, credentials, counts and numbers. -/
import Derived.Test.YtlheedcnmfekoaaXa
namespace Go.Proofs.Ytlheedcnmfekoaa
open Go.RowKit
set_option maxRecDepth 100000
set_option linter.unusedVariables false
set_option maxHeartbeats 4000000

theorem RowC.none_ {w : World} {S : Nat → Prop} {n : Nat} {L : List Value} (h : RowC w S none n L) : n = 0 := by
  cases n with
  | zero => rfl
  | succ n => obtain ⟨g, off, e, _⟩ := h (by omega); cases e
theorem RowC.reads {w w' : World} {S : Nat → Prop} {A : Option Addr} {n k : Nat} {L : List Value} (h : RowC w S A n L) (hL : L.length = n * k) (hS : ∀ g, S g → g < w.heap.size) (hb : Below w.heap.size w w') : Reads w' w'.heap.size k A n L := ⟨hL, fun hx => by
  obtain ⟨g, off, e, hg, hc⟩ := h hx
  refine ⟨_, e, Nat.lt_of_lt_of_le (hS g hg) hb.size, fun j u hu => ?_⟩
  rw [addr_add]
  exact (hb.cell (p := ⟨g, off + j, none⟩) (hS g hg)).trans (hc j u hu)⟩

theorem infoE_A : ∃ i : TypeInfo, Try.prog.info? 37 = some i ∧ i.zero = some (.agg #[.string ByteArray.empty, .string ByteArray.empty, .string ByteArray.empty, .string ByteArray.empty, .string ByteArray.empty]) ∧ i.size = 5 ∧ i.bytes = 80 := by
  have h : (Try.prog.info? 37).map (fun i => (i.zero, i.size, i.bytes)) = some (some (.agg #[.string ByteArray.empty, .string ByteArray.empty, .string ByteArray.empty, .string ByteArray.empty, .string ByteArray.empty]), 5, 80) := by kernel_rfl
  obtain ⟨i, h1, h2, h3, h4⟩ := info_parts h
  exact ⟨i, h1, h2, h3, h4⟩
theorem cloneR_A (L : List Value) (A : Option Addr) (n c : Nat) (S : Nat → Prop) (w : World) (hL : L.length = n * 5) (h1 : ∀ u ∈ L, u.oneCell' = true) (hm : n ≤ 100000) (h : RowC w S A n L) (hS : ∀ g, S g → g < w.heap.size) :
    Calls Try.prog 61 #[.slice A n c] w fun e w' => ∃ v, e = .returned v ∧ w'.ownsRow w.heap.size 37 5 v n L ∧ Below w.heap.size w w' := by
  obtain ⟨i, hi, hz, hs1, hb1⟩ := infoE_A
  have q24 : ∀ w : World, (binOp .eql 24 (.slice A n c) (.slice none 0 0)).run Try.prog w = .ok (.bool A.isNone) w := fun w => Lib.run_eql_slice_nil w _ _ A n c 0 0 Try.underlying24
  cases A with
  | none =>
    obtain rfl := h.none_
    have h0 : L = [] := List.eq_nil_of_length_eq_zero (by omega)
    subst h0
    clear h hS hL h1 hm
    go_enter Try.func61, Try.ntmps61
    go_wp2_with fail
    go_ret
    exact ⟨_, rfl, World.ownsRow_nil w _ _ _, Below.refl _ _⟩
  | some ad =>
    have HR := Lib.hid (h.reads hL hS ((Below.refl w.heap.size w).alloc (Nat.le_refl _) (.cells #[] 37)))
    have H1 := Lib.hid h1
    clear h hS hL h1
    go_enter Try.func61, Try.ntmps61
    go_wp2_with (at_builtin; go_loud (refine wpList_append_any _ rfl _ _ 24 rfl w.heap.size 37 i (.agg #[.string ByteArray.empty, .string ByteArray.empty, .string ByteArray.empty, .string ByteArray.empty, .string ByteArray.empty]) 5 80 Try.underlying24 hi hz hs1 hb1 rfl (by decide) _ 0 [] rfl (World.ownsRow_made w #[] 0 (Nat.le_refl _) (Nat.zero_le _) rfl) _ (some ad) n c L rfl HR.out H1.out (by unfold maxLen; omega) (by omega) (by simp) ?_))
    intro v' w1 hown hgrow hnil
    have HO := Lib.hid (show w1.ownsRow w.heap.size 37 5 v' n L from by simpa using hown)
    have HB := Lib.hid (((Below.refl _ w).alloc (Nat.le_refl _) _).grown hgrow (by simp) (by intro k hk; simp [Value.ownBlock] at hk; omega))
    clear hown hgrow hnil
    go_wp2
    go_ret
    exact ⟨_, rfl, HO.out, HB.out⟩

theorem infoE_H : ∃ i : TypeInfo, Try.prog.info? 44 = some i ∧ i.zero = some (.agg #[.string ByteArray.empty, .string ByteArray.empty, .int .i64 0, .slice none 0 0, .string ByteArray.empty, .string ByteArray.empty, .string ByteArray.empty, .int .i64 0, .string ByteArray.empty]) ∧ i.size = 9 ∧ i.bytes = 136 := by
  have h : (Try.prog.info? 44).map (fun i => (i.zero, i.size, i.bytes)) = some (some (.agg #[.string ByteArray.empty, .string ByteArray.empty, .int .i64 0, .slice none 0 0, .string ByteArray.empty, .string ByteArray.empty, .string ByteArray.empty, .int .i64 0, .string ByteArray.empty]), 9, 136) := by kernel_rfl
  obtain ⟨i, h1, h2, h3, h4⟩ := info_parts h
  exact ⟨i, h1, h2, h3, h4⟩
theorem cloneR_H (L : List Value) (A : Option Addr) (n c : Nat) (S : Nat → Prop) (w : World) (hL : L.length = n * 9) (h1 : ∀ u ∈ L, u.oneCell' = true) (hm : n ≤ 100000) (h : RowC w S A n L) (hS : ∀ g, S g → g < w.heap.size) :
    Calls Try.prog 62 #[.slice A n c] w fun e w' => ∃ v, e = .returned v ∧ w'.ownsRow w.heap.size 44 9 v n L ∧ Below w.heap.size w w' := by
  obtain ⟨i, hi, hz, hs1, hb1⟩ := infoE_H
  have q24 : ∀ w : World, (binOp .eql 25 (.slice A n c) (.slice none 0 0)).run Try.prog w = .ok (.bool A.isNone) w := fun w => Lib.run_eql_slice_nil w _ _ A n c 0 0 Try.underlying25
  cases A with
  | none =>
    obtain rfl := h.none_
    have h0 : L = [] := List.eq_nil_of_length_eq_zero (by omega)
    subst h0
    clear h hS hL h1 hm
    go_enter Try.func62, Try.ntmps62
    go_wp2_with fail
    go_ret
    exact ⟨_, rfl, World.ownsRow_nil w _ _ _, Below.refl _ _⟩
  | some ad =>
    have HR := Lib.hid (h.reads hL hS ((Below.refl w.heap.size w).alloc (Nat.le_refl _) (.cells #[] 44)))
    have H1 := Lib.hid h1
    clear h hS hL h1
    go_enter Try.func62, Try.ntmps62
    go_wp2_with (at_builtin; go_loud (refine wpList_append_any _ rfl _ _ 25 rfl w.heap.size 44 i (.agg #[.string ByteArray.empty, .string ByteArray.empty, .int .i64 0, .slice none 0 0, .string ByteArray.empty, .string ByteArray.empty, .string ByteArray.empty, .int .i64 0, .string ByteArray.empty]) 9 136 Try.underlying25 hi hz hs1 hb1 rfl (by decide) _ 0 [] rfl (World.ownsRow_made w #[] 0 (Nat.le_refl _) (Nat.zero_le _) rfl) _ (some ad) n c L rfl HR.out H1.out (by unfold maxLen; omega) (by omega) (by simp) ?_))
    intro v' w1 hown hgrow hnil
    have HO := Lib.hid (show w1.ownsRow w.heap.size 44 9 v' n L from by simpa using hown)
    have HB := Lib.hid (((Below.refl _ w).alloc (Nat.le_refl _) _).grown hgrow (by simp) (by intro k hk; simp [Value.ownBlock] at hk; omega))
    clear hown hgrow hnil
    go_wp2
    go_ret
    exact ⟨_, rfl, HO.out, HB.out⟩

theorem infoE_U : ∃ i : TypeInfo, Try.prog.info? 56 = some i ∧ i.zero = some (.agg #[.string ByteArray.empty, .int .i64 0, .int .i64 0]) ∧ i.size = 3 ∧ i.bytes = 32 := by
  have h : (Try.prog.info? 56).map (fun i => (i.zero, i.size, i.bytes)) = some (some (.agg #[.string ByteArray.empty, .int .i64 0, .int .i64 0]), 3, 32) := by kernel_rfl
  obtain ⟨i, h1, h2, h3, h4⟩ := info_parts h
  exact ⟨i, h1, h2, h3, h4⟩
theorem cloneR_U (L : List Value) (A : Option Addr) (n c : Nat) (S : Nat → Prop) (w : World) (hL : L.length = n * 3) (h1 : ∀ u ∈ L, u.oneCell' = true) (hm : n ≤ 100000) (h : RowC w S A n L) (hS : ∀ g, S g → g < w.heap.size) :
    Calls Try.prog 63 #[.slice A n c] w fun e w' => ∃ v, e = .returned v ∧ w'.ownsRow w.heap.size 56 3 v n L ∧ Below w.heap.size w w' := by
  obtain ⟨i, hi, hz, hs1, hb1⟩ := infoE_U
  have q24 : ∀ w : World, (binOp .eql 26 (.slice A n c) (.slice none 0 0)).run Try.prog w = .ok (.bool A.isNone) w := fun w => Lib.run_eql_slice_nil w _ _ A n c 0 0 Try.underlying26
  cases A with
  | none =>
    obtain rfl := h.none_
    have h0 : L = [] := List.eq_nil_of_length_eq_zero (by omega)
    subst h0
    clear h hS hL h1 hm
    go_enter Try.func63, Try.ntmps63
    go_wp2_with fail
    go_ret
    exact ⟨_, rfl, World.ownsRow_nil w _ _ _, Below.refl _ _⟩
  | some ad =>
    have HR := Lib.hid (h.reads hL hS ((Below.refl w.heap.size w).alloc (Nat.le_refl _) (.cells #[] 56)))
    have H1 := Lib.hid h1
    clear h hS hL h1
    go_enter Try.func63, Try.ntmps63
    go_wp2_with (at_builtin; go_loud (refine wpList_append_any _ rfl _ _ 26 rfl w.heap.size 56 i (.agg #[.string ByteArray.empty, .int .i64 0, .int .i64 0]) 3 32 Try.underlying26 hi hz hs1 hb1 rfl (by decide) _ 0 [] rfl (World.ownsRow_made w #[] 0 (Nat.le_refl _) (Nat.zero_le _) rfl) _ (some ad) n c L rfl HR.out H1.out (by unfold maxLen; omega) (by omega) (by simp) ?_))
    intro v' w1 hown hgrow hnil
    have HO := Lib.hid (show w1.ownsRow w.heap.size 56 3 v' n L from by simpa using hown)
    have HB := Lib.hid (((Below.refl _ w).alloc (Nat.le_refl _) _).grown hgrow (by simp) (by intro k hk; simp [Value.ownBlock] at hk; omega))
    clear hown hgrow hnil
    go_wp2
    go_ret
    exact ⟨_, rfl, HO.out, HB.out⟩

theorem infoE_N : ∃ i : TypeInfo, Try.prog.info? 23 = some i ∧ i.zero = some (.string ByteArray.empty) ∧ i.size = 1 ∧ i.bytes = 16 := by
  have h : (Try.prog.info? 23).map (fun i => (i.zero, i.size, i.bytes)) = some (some (.string ByteArray.empty), 1, 16) := by kernel_rfl
  obtain ⟨i, h1, h2, h3, h4⟩ := info_parts h
  exact ⟨i, h1, h2, h3, h4⟩
theorem cloneR_N (L : List Value) (A : Option Addr) (n c : Nat) (S : Nat → Prop) (w : World) (hL : L.length = n * 1) (h1 : ∀ u ∈ L, u.oneCell' = true) (hm : n ≤ 100000) (h : RowC w S A n L) (hS : ∀ g, S g → g < w.heap.size) :
    Calls Try.prog 64 #[.slice A n c] w fun e w' => ∃ v, e = .returned v ∧ w'.ownsRow w.heap.size 23 1 v n L ∧ Below w.heap.size w w' := by
  obtain ⟨i, hi, hz, hs1, hb1⟩ := infoE_N
  have q24 : ∀ w : World, (binOp .eql 38 (.slice A n c) (.slice none 0 0)).run Try.prog w = .ok (.bool A.isNone) w := fun w => Lib.run_eql_slice_nil w _ _ A n c 0 0 Try.underlying38
  cases A with
  | none =>
    obtain rfl := h.none_
    have h0 : L = [] := List.eq_nil_of_length_eq_zero (by omega)
    subst h0
    clear h hS hL h1 hm
    go_enter Try.func64, Try.ntmps64
    go_wp2_with fail
    go_ret
    exact ⟨_, rfl, World.ownsRow_nil w _ _ _, Below.refl _ _⟩
  | some ad =>
    have HR := Lib.hid (h.reads hL hS ((Below.refl w.heap.size w).alloc (Nat.le_refl _) (.cells #[] 23)))
    have H1 := Lib.hid h1
    clear h hS hL h1
    go_enter Try.func64, Try.ntmps64
    go_wp2_with (at_builtin; go_loud (refine wpList_append_any _ rfl _ _ 38 rfl w.heap.size 23 i (.string ByteArray.empty) 1 16 Try.underlying38 hi hz hs1 hb1 rfl (by decide) _ 0 [] rfl (World.ownsRow_made w #[] 0 (Nat.le_refl _) (Nat.zero_le _) rfl) _ (some ad) n c L rfl HR.out H1.out (by unfold maxLen; omega) (by omega) (by simp) ?_))
    intro v' w1 hown hgrow hnil
    have HO := Lib.hid (show w1.ownsRow w.heap.size 23 1 v' n L from by simpa using hown)
    have HB := Lib.hid (((Below.refl _ w).alloc (Nat.le_refl _) _).grown hgrow (by simp) (by intro k hk; simp [Value.ownBlock] at hk; omega))
    clear hown hgrow hnil
    go_wp2
    go_ret
    exact ⟨_, rfl, HO.out, HB.out⟩

end Go.Proofs.Ytlheedcnmfekoaa
