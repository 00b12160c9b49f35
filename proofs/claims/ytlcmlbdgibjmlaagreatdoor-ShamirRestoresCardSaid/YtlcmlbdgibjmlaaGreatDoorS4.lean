/- Plain law of restoring: the shares of a split, taken by any list of different indices, restore the secret. Words for own rows of ints, and for two own rows side by side. Plain law of restoring, in the words of Combine: the indices that ShamirRestores takes are different, and their shares restore the secret. -/
import Derived.Test.YtlcmlbdgibjmlaaGreatDoorSA
import Derived.Test.YtlcmlbdgibjmlaaGreatDoorBA
import Derived.Test.YtlcmlbdgibjmlaaGreatDoorSJ
import Derived.Test.YtlcmlbdgibjmlaaGreatDoorYG
import Derived.Test.YtlcmlbdgibjmlaaGreatDoorSo
namespace Go.Proofs.YtlcmlbdgibjmlaaGreatDoor
open Go.RowKit
set_option maxRecDepth 100000
set_option linter.unusedVariables false
set_option maxHeartbeats 4000000

/-- A number that passes the test has no divisor in common with a small number below it. -/
theorem isS_cop_prime {Q p : Nat} (hp : p ∈ basesL) (hQ : isS Q = true) (hd : Q % p = 0) : Q ∈ basesL := by
  have h2 : 2 ≤ Q := by
    rcases Nat.lt_or_ge Q 2 with h | h
    · rw [isS_small h] at hQ; cases hQ
    · exact h
  unfold isS at hQ
  rw [if_neg (by omega)] at hQ
  cases hf : basesL.find? (fun p => Q % p == 0) with
  | none =>
    have := List.find?_eq_none.1 hf p hp
    simp at this
    exact absurd hd this
  | some r =>
    rw [hf] at hQ
    have hQ' : (Q == r) = true := hQ
    rw [beq_iff_eq] at hQ'
    rw [hQ']
    exact List.mem_of_find?_eq_some hf
theorem gcd_small {Q d : Nat} (hQ : isS Q = true) (h1 : 1 ≤ d) (h9 : d ≤ 9) (hlt : d < Q) : Nat.gcd d Q = 1 := by
  have hb : ∀ p, p ∈ basesL → ∀ e, e ∈ [1, 2, 3, 4, 5, 6, 7, 8, 9] → e < p → Nat.gcd e p = 1 := by
    have h : basesL.all (fun p => [1, 2, 3, 4, 5, 6, 7, 8, 9].all fun e => decide (e < p → Nat.gcd e p = 1)) = true := by decide +kernel
    intro p hp e he hlt
    have := List.all_eq_true.1 (List.all_eq_true.1 h p hp) e he
    rw [decide_eq_true_eq] at this
    exact this hlt
  have hmem : d ∈ [1, 2, 3, 4, 5, 6, 7, 8, 9] := by
    have : d = 1 ∨ d = 2 ∨ d = 3 ∨ d = 4 ∨ d = 5 ∨ d = 6 ∨ d = 7 ∨ d = 8 ∨ d = 9 := by omega
    rcases this with rfl | rfl | rfl | rfl | rfl | rfl | rfl | rfl | rfl <;> decide
  by_cases hQb : Q ∈ basesL
  · exact hb Q hQb d hmem hlt
  · have n2 : Q % 2 ≠ 0 := fun h => hQb (isS_cop_prime (p := 2) (by decide) hQ h)
    have n3 : Q % 3 ≠ 0 := fun h => hQb (isS_cop_prime (p := 3) (by decide) hQ h)
    have n5 : Q % 5 ≠ 0 := fun h => hQb (isS_cop_prime (p := 5) (by decide) hQ h)
    have n7 : Q % 7 ≠ 0 := fun h => hQb (isS_cop_prime (p := 7) (by decide) hQ h)
    have hg : Nat.gcd d Q ∣ d := Nat.gcd_dvd_left d Q
    have hgQ : Nat.gcd d Q ∣ Q := Nat.gcd_dvd_right d Q
    generalize Nat.gcd d Q = g at *
    have hg9 : g ≤ 9 := Nat.le_trans (Nat.le_of_dvd (by omega) hg) h9
    have hg0 : g ≠ 0 := fun e => by rw [e] at hg; have := Nat.eq_zero_of_zero_dvd hg; omega
    have k2 : ¬ 2 ∣ Q := fun h => n2 (Nat.mod_eq_zero_of_dvd h)
    have k3 : ¬ 3 ∣ Q := fun h => n3 (Nat.mod_eq_zero_of_dvd h)
    have k5 : ¬ 5 ∣ Q := fun h => n5 (Nat.mod_eq_zero_of_dvd h)
    have k7 : ¬ 7 ∣ Q := fun h => n7 (Nat.mod_eq_zero_of_dvd h)
    have : g = 1 ∨ g = 2 ∨ g = 3 ∨ g = 4 ∨ g = 5 ∨ g = 6 ∨ g = 7 ∨ g = 8 ∨ g = 9 := by omega
    rcases this with rfl | rfl | rfl | rfl | rfl | rfl | rfl | rfl | rfl
    · rfl
    · exact absurd hgQ k2
    · exact absurd hgQ k3
    · exact absurd (Nat.dvd_trans (by decide) hgQ) k2
    · exact absurd hgQ k5
    · exact absurd (Nat.dvd_trans (by decide) hgQ) k2
    · exact absurd hgQ k7
    · exact absurd (Nat.dvd_trans (by decide) hgQ) k2
    · exact absurd (Nat.dvd_trans (by decide) hgQ) k3
theorem unit_small {Q d : Nat} (h2 : 2 ≤ Q) (hg : Nat.gcd d Q = 1) : ∃ v : Int, cg Q ((d : Int) * v) 1 := by
  have h := invM_mul (s := d) h2 (by rw [← hg]; rw [Nat.gcd_comm, Nat.gcd_comm d Q]; exact (Nat.gcd_rec Q d ▸ by rw [Nat.gcd_comm]))
  refine ⟨(invM d Q : Nat), ?_⟩
  have h1 : cg Q ((d * invM d Q : Nat) : Int) ((d * invM d Q % Q : Nat) : Int) := (cg.mod _).symm
  rw [h, Nat.mod_eq_of_lt (by omega)] at h1
  simpa using h1
theorem diff_unit {Q x y : Nat} (hQ : isS Q = true) (h2 : 2 ≤ Q) (hx : 1 ≤ x ∧ x ≤ 10 ∧ x < Q) (hy : 1 ≤ y ∧ y ≤ 10 ∧ y < Q) (hne : x ≠ y) : ∃ v, cg Q (((x : Int) - (y : Int)) * v) 1 := by
  rcases Nat.lt_or_ge y x with h | h
  · obtain ⟨v, hv⟩ := unit_small h2 (gcd_small (d := x - y) hQ (by omega) (by omega) (by omega))
    exact ⟨v, by rw [show (x : Int) - (y : Int) = ((x - y : Nat) : Int) by omega]; exact hv⟩
  · obtain ⟨v, hv⟩ := unit_small h2 (gcd_small (d := y - x) hQ (by omega) (by omega) (by omega))
    exact ⟨-v, by rw [show (x : Int) - (y : Int) = -((y - x : Nat) : Int) by omega, Int.neg_mul_neg]; exact hv⟩
/-- Shares at different indices restore the secret. -/
theorem restores {Q S : Nat} {cs is : List Nat} (hQ : isS Q = true) (h2 : 2 ≤ Q) (hS : S < Q) (hi : ∀ i ∈ is, 1 ≤ i ∧ i ≤ 10 ∧ i < Q) (hnd : is.Nodup) (hl : cs.length + 1 ≤ is.length) :
    valL Q 0 (thruL Q is (is.map fun i => valL Q i (S :: cs))) = S := by
  have hat : ∀ m, m < is.length → is.getD m 0 ∈ is := fun m hm => by
    rw [List.getD_eq_getElem?_getD, List.getElem?_eq_getElem hm]
    exact List.getElem_mem hm
  rw [lagrange h2 is _ (S :: cs) hl (fun m hm => by
    rw [List.getD_eq_getElem?_getD, List.getElem?_map, List.getD_eq_getElem?_getD, List.getElem?_eq_getElem hm]
    rfl) (fun i m hi' hm hne => diff_unit hQ h2 (hi _ (hat i hi')) (hi _ (hat m hm)) (fun e => by
      rw [List.getD_eq_getElem?_getD, List.getD_eq_getElem?_getD, List.getElem?_eq_getElem hi', List.getElem?_eq_getElem hm] at e
      have e' : is[i] = is[m] := e
      rcases Nat.lt_or_ge i m with hlt | hge
      · exact (List.pairwise_iff_getElem.1 hnd) i m hi' hm hlt e'
      · exact (List.pairwise_iff_getElem.1 hnd) m i hm hi' (by omega) e'.symm)) 0]
  unfold valL
  simp [Nat.mod_eq_of_lt hS]

end Go.Proofs.YtlcmlbdgibjmlaaGreatDoor

namespace Go.Proofs.YtlcmlbdgibjmlaaGreatDoor
open Go.RowKit
set_option maxRecDepth 100000
set_option linter.unusedVariables false
set_option maxHeartbeats 4000000

theorem int_infoE : ∃ i : TypeInfo, Tryz.prog.info? 3 = some i ∧ i.zero = some (.int .i64 0) ∧ i.size = 1 ∧ i.bytes = 8 := by
  have h : (Tryz.prog.info? 3).map (fun i => (i.zero, i.size, i.bytes)) = some (some (.int .i64 0), 1, 8) := by kernel_rfl
  obtain ⟨i, hi, hz⟩ := Option.map_eq_some_iff.1 h
  simp only [Prod.mk.injEq] at hz
  exact ⟨i, hi, hz.1, hz.2.1, hz.2.2⟩
theorem ints_one (l : List Int) : ∀ v ∈ l.map (Value.int .i64), v.oneCell' = true := by
  intro v hv
  obtain ⟨n, _, rfl⟩ := List.mem_map.mp hv
  rfl
theorem ISl.reads {w : World} {b : Nat} {A : Option Addr} {is : List Int} (h : ISl w b A is) {n : Nat} (hn : is.length = n) : Reads w b 1 A n (is.map (Value.int .i64)) := by
  refine ⟨by simp [hn], fun h0 => ?_⟩
  obtain ⟨ad, e, hb, hc⟩ := h (by intro e; rw [e] at hn; simp at hn; omega)
  refine ⟨ad, e, hb, fun j u hu => ?_⟩
  rw [List.getElem?_map, Option.map_eq_some_iff] at hu
  obtain ⟨x, hx, rfl⟩ := hu
  have hj := (List.getElem?_eq_some_iff.1 hx).1
  rw [hc j hj, igetD_lt hj, (List.getElem?_eq_some_iff.1 hx).2]
/-- A row of ints of the call's own. -/
def OwnI (w : World) (base : Nat) (v : Value) (n : Nat) (is : List Int) : Prop := is.length = n ∧ w.ownsRow base 3 1 v n (is.map (Value.int .i64))
theorem OwnI.nil_ (w : World) (base : Nat) : OwnI w base (.slice none 0 0) 0 [] := ⟨rfl, World.ownsRow_nil w base _ 1⟩
theorem OwnI.form {w : World} {base : Nat} {v : Value} {n : Nat} {is : List Int} (h : OwnI w base v n is) : ∃ A c, v = .slice A n c ∧ ISl w w.heap.size A is := by
  obtain ⟨hn, hr⟩ := h
  rcases hr.2 with ⟨rfl, rfl⟩ | ⟨g, cap, cur, rfl, hb, hg, _⟩
  · exact ⟨none, 0, rfl, by rw [List.eq_nil_of_length_eq_zero hn]; exact ISl.nil_⟩
  · refine ⟨some ⟨g, 0, none⟩, cap, rfl, fun _ => ⟨_, rfl, (Array.getElem?_eq_some_iff.1 hg).1, fun j hj => ?_⟩⟩
    refine hr.cells (g := g) rfl j _ ?_
    rw [List.getElem?_map, igetD_lt hj, List.getElem?_eq_getElem hj]
    rfl
theorem OwnI.grown {w w' : World} {base : Nat} {v : Value} {n : Nat} {is : List Int} {row : Option Nat} (h : OwnI w base v n is) (hg : w.grownBy w' row) (hr : ∀ k, v.ownBlock = some k → row ≠ some k) : OwnI w' base v n is := by
  refine ⟨h.1, h.2.1, ?_⟩
  rcases h.2.2 with hn | ⟨g, cap, cur, rfl, h1, hgg, rest⟩
  · exact .inl hn
  · exact .inr ⟨g, cap, cur, rfl, h1, (hg.block g (Array.getElem?_eq_some_iff.1 hgg).1 (fun e => hr g rfl e.symm)).trans hgg, rest⟩
theorem OwnI.kept {w w' : World} {base : Nat} {v : Value} {n : Nat} {is : List Int} (h : OwnI w base v n is) (hb : Below w.heap.size w w') : OwnI w' base v n is := by
  refine ⟨h.1, h.2.1, ?_⟩
  rcases h.2.2 with hn | ⟨g, cap, cur, rfl, h1, hg, rest⟩
  · exact .inl hn
  · exact .inr ⟨g, cap, cur, rfl, h1, (hb.block g (Array.getElem?_eq_some_iff.1 hg).1).trans hg, rest⟩
theorem OwnI.blockOf {w : World} {base n : Nat} {v : Value} {is : List Int} (h : OwnI w base v n is) : ∀ k, v.ownBlock = some k → base ≤ k ∧ k < w.heap.size := by
  intro k hk
  rcases h.2.2 with ⟨rfl, _⟩ | ⟨g, cap, cur, rfl, h1, hg, rest⟩
  · cases hk
  · cases hk
    exact ⟨h1, (Array.getElem?_eq_some_iff.1 hg).1⟩
theorem OwnI.slice {w : World} {base n : Nat} {v : Value} {is : List Int} (h : OwnI w base v n is) : ∃ A c, v = .slice A n c := by
  rcases h.2.2 with ⟨rfl, rfl⟩ | ⟨g, cap, cur, rfl, h1, hg, rest⟩
  · exact ⟨none, 0, rfl⟩
  · exact ⟨_, _, rfl⟩
theorem OwnS.grown {w w' : World} {base : Nat} {v : Value} {n : Nat} {ls : List ByteArray} {row : Option Nat} (h : OwnS w base v n ls) (hg : w.grownBy w' row) (hr : ∀ k, v.ownBlock = some k → row ≠ some k) : OwnS w' base v n ls := by
  refine ⟨h.1, h.2.1, ?_⟩
  rcases h.2.2 with hn | ⟨g, cap, cur, rfl, h1, hgg, rest⟩
  · exact .inl hn
  · exact .inr ⟨g, cap, cur, rfl, h1, (hg.block g (Array.getElem?_eq_some_iff.1 hgg).1 (fun e => hr g rfl e.symm)).trans hgg, rest⟩
theorem isl_one (W : World) (T : TypeId) (x : Int) : ISl (W.alloc (.cells #[.int .i64 x] T)) (W.alloc (.cells #[.int .i64 x] T)).heap.size (some ⟨W.heap.size, 0, none⟩) [x] := by
  intro _
  refine ⟨_, rfl, by rw [World.size_alloc]; exact Nat.lt_succ_self _, fun j hj => ?_⟩
  obtain rfl : j = 0 := by simpa using hj
  simp [go_sem, Addr.add]
/-- append of a row of ints onto a row of the call's own. -/
theorem wpList_append_I {w : World} {ops : Array Oper} {rest : List Oper} {o : Oper} {a : Act} {Q : Exit → Act → World → Prop} (hgd : o.guard = none) (s x : Operand)
    (ho : o.op = .call { callee := .builtin .append, args := #[s, x], argTypes := #[44, 44] })
    (base : Nat) (v : Value) (n : Nat) (is : List Int) (hs : a.eval s = v) (hown : OwnI w base v n is)
    (A : Option Addr) (m c : Nat) (N : List Int) (hx : a.eval x = .slice A m c) (hN : ISl w w.heap.size A N) (hm : N.length = m) (hsz : n + m ≤ 100000) (hbase : base ≤ w.heap.size)
    (h : ∀ v' w', OwnI w' base v' (n + m) (is ++ N) → w.grownBy w' v.ownBlock → (v'.ownBlock = v.ownBlock ∨ v'.ownBlock = some w.heap.size) → wpList Tryz.prog ops Q rest (a.put o.dst v') w') : wpList Tryz.prog ops Q (o :: rest) a w := by
  obtain ⟨i, hi, hz, hs1, hb1⟩ := int_infoE
  refine wpList_append_any w hgd s x 44 ho base 3 i (.int .i64 0) 1 8 Tryz.underlying44 hi hz hs1 hb1 rfl (by decide) v n (is.map (Value.int .i64)) hs hown.2 w.heap.size A m c (N.map (Value.int .i64)) hx (hN.reads hm) (ints_one N) (by unfold maxLen; omega) (by omega) hbase ?_
  intro v' w' h2 h3 h4
  refine h v' w' ⟨by rw [List.length_append, hown.1, hm], ?_⟩ h3 h4
  rw [List.map_append]; exact h2

end Go.Proofs.YtlcmlbdgibjmlaaGreatDoor

namespace Go.Proofs.YtlcmlbdgibjmlaaGreatDoor
open Go.RowKit
set_option maxRecDepth 100000
set_option linter.unusedVariables false
set_option maxHeartbeats 4000000

/-- The index that is taken in round k, less 1. -/
def pickA (f K k : Nat) : Nat := (f + 3 * K - k) % K
def pickL (f K k : Nat) : List Nat := (List.range k).map (pickA f K)
theorem pickL_snoc (f K k : Nat) : pickL f K (k + 1) = pickL f K k ++ [pickA f K k] := by
  unfold pickL; rw [List.range_succ, List.map_append]; rfl
theorem pickL_len (f K k : Nat) : (pickL f K k).length = k := by unfold pickL; simp
theorem pickA_lt {f K k : Nat} (h : 1 ≤ K) : pickA f K k < K := Nat.mod_lt _ (by omega)
theorem pickA_ne {f K i j : Nat} (h : i < j) (hj : j < K) : pickA f K i ≠ pickA f K j := by
  intro e
  unfold pickA at e
  have h1 := Nat.sub_mod_eq_zero_of_mod_eq e
  rw [show f + 3 * K - i - (f + 3 * K - j) = j - i by omega, Nat.mod_eq_of_lt (by omega)] at h1
  omega
theorem pickL_nodup {f K k : Nat} (hk : k ≤ K) : (pickL f K k).Nodup := by
  unfold pickL
  refine List.pairwise_map.2 (List.Pairwise.imp_of_mem (R := (· < ·)) ?_ (List.pairwise_lt_range))
  intro a b ha hb hlt
  exact pickA_ne hlt (Nat.lt_of_lt_of_le (List.mem_range.1 hb) hk)
def idxI (L : List Nat) : List Int := L.map fun i => ((i + 1 : Nat) : Int)
theorem twiceI_false {l : List Int} (h : l.Pairwise (· ≠ ·)) : twiceI l = false := by
  induction l with
  | nil => rfl
  | cons x l ih =>
    unfold twiceI
    rw [ih (List.pairwise_cons.1 h).2, Bool.or_false, List.any_eq_false]
    intro y hy
    have := (List.pairwise_cons.1 h).1 y hy
    simp
    exact fun e => this e.symm
theorem comb_restores {Q S : Nat} {cs L : List Nat} (hE : isE (B Q) = 0) (hS : S < Q) (hL : ∀ i ∈ L, i < 10 ∧ i + 1 < Q) (hnd : L.Nodup) (hl : cs.length + 1 ≤ L.length) (h10 : L.length ≤ 10) :
    combS (B Q) (idxI L) (L.map fun i => B (valL Q (i + 1) (S :: cs))) = (B S, 0) := by
  have hQ := isE_zero hE
  rw [num_B] at hQ
  have hq0 : 0 < Q := by have := hQ.two; omega
  have hvQ : valid (B Q) = true := valid_B (u64_lt_lim hQ.lt)
  have hlim : ∀ m, m < Q → m < lim := fun m hm => u64_lt_lim (Nat.lt_trans hm hQ.lt)
  have hsh : shE (B Q) [L.map fun i => B (valL Q (i + 1) (S :: cs))] = 0 := by
    unfold shE
    rw [if_pos ?_, hE]
    simp only [List.all_cons, List.all_nil, Bool.and_true, List.all_map]
    rw [List.all_eq_true]
    intro i _
    exact valid_B (hlim _ (valL_lt hq0 _))
  unfold combS
  have hlen : (idxI L).length = L.length := by unfold idxI; rw [List.length_map]
  rw [if_pos hsh, hlen, List.length_map, if_neg (by omega)]
  have hidx : (idxI L).all idxP = true := by
    unfold idxI
    rw [List.all_map, List.all_eq_true]
    intro i hi
    have := hL i hi
    show idxP ((i + 1 : Nat) : Int) = true
    unfold idxP
    rw [decide_eq_true_eq]
    omega
  rw [if_pos hidx]
  have hN : idxN (idxI L) = L.map (· + 1) := by
    unfold idxN idxI
    rw [List.map_map]
    exact List.map_congr_left (fun i _ => by show (((i + 1 : Nat) : Int)).toNat = i + 1; omega)
  have hb1 : blwS (B Q) (idxB (idxI L)) = true := by
    unfold blwS idxB
    rw [hN, List.map_map, List.all_map, List.all_eq_true]
    intro i hi
    have h1 := hL i hi
    show decide (natCmp (B (i + 1)) (B Q) < 0) = true
    rw [decide_eq_true_eq, natCmp_lt (valid_B (hlim _ h1.2)) hvQ, num_B, num_B]
    exact h1.2
  have hb2 : blwS (B Q) (L.map fun i => B (valL Q (i + 1) (S :: cs))) = true := by
    unfold blwS
    rw [List.all_map, List.all_eq_true]
    intro i hi
    show decide (natCmp (B (valL Q (i + 1) (S :: cs))) (B Q) < 0) = true
    rw [decide_eq_true_eq, natCmp_lt (valid_B (hlim _ (valL_lt hq0 _))) hvQ, num_B, num_B]
    exact valL_lt hq0 _
  rw [hb1, hb2, if_pos (show (true && true) = true from rfl)]
  have hnd2 : (L.map (· + 1)).Nodup := List.pairwise_map.2 (List.Pairwise.imp (fun h e => h (by omega)) hnd)
  have htw : twiceI (idxI L) = false := by
    apply twiceI_false
    unfold idxI
    exact List.pairwise_map.2 (List.Pairwise.imp (fun h e => h (by omega)) hnd)
  rw [htw, if_neg (by decide), num_B, hN]
  have hys : (L.map fun i => B (valL Q (i + 1) (S :: cs))).map num = (L.map (· + 1)).map fun i => valL Q i (S :: cs) := by
    rw [List.map_map, List.map_map]
    exact List.map_congr_left (fun i _ => num_B _)
  rw [hys, restores hQ.is hQ.two hS ?_ hnd2 (by rw [List.length_map]; exact hl)]
  intro i hi
  obtain ⟨j, hj, rfl⟩ := List.mem_map.1 hi
  have := hL j hj
  omega

end Go.Proofs.YtlcmlbdgibjmlaaGreatDoor
