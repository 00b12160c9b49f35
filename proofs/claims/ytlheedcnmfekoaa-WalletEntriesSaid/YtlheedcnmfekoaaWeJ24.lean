/- Wallet: a row of two items; the entries held and renewed are short; renew in general. Wallet: Renew. -/
import Derived.Test.YtlheedcnmfekoaaWeJ20
import Derived.Test.YtlheedcnmfekoaaWeVx
import Derived.Test.YtlheedcnmfekoaaWeYt
namespace Go.Proofs.Ytlheedcnmfekoaa
open Go.RowKit
set_option maxRecDepth 100000
set_option linter.unusedVariables false
set_option maxHeartbeats 8000000
theorem pair_row {W : World} {S : Nat → Prop} {k1 k2 : Int} {n1 t1 n2 t2 : ByteArray} {l1 l2 : Its} {A1 A2 : Option Addr} {m1 c1 m2 c2 : Nat} (h1 : SlI W S A1 l1) (h2 : SlI W S A2 l2) (hS : ∀ g, S g → g < W.heap.size) (e1 : l1.len = m1) (e2 : l2.len = m2) :
    SlI (W.alloc (.cells #[.int .i64 k1, .string n1, .string t1, .slice A1 m1 c1, .int .i64 k2, .string n2, .string t2, .slice A2 m2 c2] 69)) (fun g => S g ∨ g = W.heap.size) (some ⟨W.heap.size, 0, none⟩) (.cons k1 n1 t1 l1 (.cons k2 n2 t2 l2 .nil)) := by
  subst e1 e2
  have hal : Below W.heap.size W (W.alloc (.cells #[.int .i64 k1, .string n1, .string t1, .slice A1 l1.len c1, .int .i64 k2, .string n2, .string t2, .slice A2 l2.len c2] 69)) := (Below.refl _ _).alloc (Nat.le_refl _) _
  obtain ⟨L1, a1, b1⟩ := (h1.below hal hS).mono (S' := fun g => S g ∨ g = W.heap.size) (fun g hg => .inl hg)
  obtain ⟨L2, a2, b2⟩ := (h2.below hal hS).mono (S' := fun g => S g ∨ g = W.heap.size) (fun g hg => .inl hg)
  refine ⟨[.int .i64 k1, .string n1, .string t1, .slice A1 l1.len c1, .int .i64 k2, .string n2, .string t2, .slice A2 l2.len c2], fun _ => ⟨_, 0, rfl, .inr rfl, fun j u hj => ?_⟩, A1, c1, L1, _, rfl, a1, b1, A2, c2, L2, _, rfl, a2, b2, rfl⟩
  rw [Nat.zero_add, cell_of_row _ _ j _ _ _ (heap_alloc_new W _), ← hj]
  simp
/-- Renew where the wallet is not valid. -/
theorem wal_Renew_inv (sec : ByteArray) (qs : List Az) (hs : List Hz) (us : List Uz) (Aa Ah Au : Option Addr) (na ca nh ch nu cu : Nat) (k : Int) (x : Hz) (A : Option Addr) (n c : Nat) (S : Nat → Prop) (w : World) (hq : qs.length = na) (hn : hs.length = nh) (hu : us.length = nu) (ho : WalOk qs hs us) (hv : validW sec qs hs us = false) (h : WalM w S qs hs us Aa Ah Au) (hS : ∀ g, S g → g < w.heap.size) :
    Calls Try.prog 23 #[.agg #[.string sec, .slice Aa na ca, .slice Ah nh ch, .slice Au nu cu], .int .i64 k, valH x A n c] w (ZeroErr w 3) := by
  unfold valH
  have HV := Lib.hid (fun W (hb : Below w.heap.size w W) => wal_valid sec qs hs us Aa Ah Au na ca nh ch nu cu S W hq hn hu (by have := ho.na; omega) (by have := ho.nh; omega) (by have := ho.nu; omega) ho.nonce ho.att ho.scope (h.keep (fun q hq => hb.cell (hS _ hq))) (fun g hg => Nat.lt_of_lt_of_le (hS g hg) hb.size))
  rw [hv] at HV
  have HB0 := Lib.hid (BxB.start (w := w) (sec := sec) (Aa := Aa) (na := na) (ca := ca) (Ah := Ah) (nh := nh) (ch := ch) (Au := Au) (nu := nu) (cu := cu) (cs := #[.string x.iss, .string x.sch, .int .i64 x.ver, .slice A n c, .string x.a, .string x.e, .string x.v, .int .i64 x.ep, .string x.wit]) (T := 44))
  clear h hS ho hq hn hu hv
  go_enter Try.func23, Try.ntmps23
  go_wp2_with (go_at_call 13; (with_reducible refine (HV.out _ HB0.out.bel).mono ?_); rintro e w1 ⟨rfl, hb1⟩; have HB1 := Lib.hid (HB0.out.next hb1); obtain ⟨⟨r0, r1, r2, r3⟩, g0, g1, g2, g3⟩ := HB1.out.rc; clear hb1)
  refine bodyPost_ret (v := .tuple #[.agg #[.string ⟨#[]⟩, .slice none 0 0, .slice none 0 0, .slice none 0 0], .string ⟨#[]⟩, .int .i64 3]) (by simp [results, Try.results23, go_sem, r0, r1, r2, r3]) rfl ?_
  exact ⟨rfl, HB1.out.zero _ _ _ _⟩
/-- Renew where a number is not canonical. -/
theorem wal_Renew_can (sec : ByteArray) (qs : List Az) (hs : List Hz) (us : List Uz) (Aa Ah Au : Option Addr) (na ca nh ch nu cu : Nat) (k : Int) (x : Hz) (A : Option Addr) (n c : Nat) (S : Nat → Prop) (w : World) (hq : qs.length = na) (hn : hs.length = nh) (hu : us.length = nu) (ho : WalOk qs hs us) (hv : validW sec qs hs us = true) (hc : (numsH x).all valid = false) (hnx : x.att.length = n) (hmn : n ≤ 1000) (hnl : (numsH x).length ≤ 100000) (hrow : RowC w S A n (cellsN x.att)) (h : WalM w S qs hs us Aa Ah Au) (hS : ∀ g, S g → g < w.heap.size) :
    Calls Try.prog 23 #[.agg #[.string sec, .slice Aa na ca, .slice Ah nh ch, .slice Au nu cu], .int .i64 k, valH x A n c] w (ZeroErr w 3) := by
  have HV := Lib.hid (fun W (hb : Below w.heap.size w W) => wal_valid sec qs hs us Aa Ah Au na ca nh ch nu cu S W hq hn hu (by have := ho.na; omega) (by have := ho.nh; omega) (by have := ho.nu; omega) ho.nonce ho.att ho.scope (h.keep (fun q hq => hb.cell (hS _ hq))) (fun g hg => Nat.lt_of_lt_of_le (hS g hg) hb.size))
  rw [hv] at HV
  have HNM := Lib.hid (fun W (hb : Below w.heap.size w W) => wal_numbers x A n c S W hnx (by omega) (hrow.keep (fun q hq => hb.cell (hS _ hq))) (fun g hg => Nat.lt_of_lt_of_le (hS g hg) hb.size))
  unfold valH at HNM ⊢
  have HCAN := Lib.hid (fun A' n' c' W (hn' : n' = (numsH x).length) (hs : SLs W W.heap.size A' (numsH x)) => wal_canonical (numsH x) A' n' c' W.heap.size W hn'.symm (by omega) hs)
  rw [hc] at HCAN
  have HB0 := Lib.hid (BxB.start (w := w) (sec := sec) (Aa := Aa) (na := na) (ca := ca) (Ah := Ah) (nh := nh) (ch := ch) (Au := Au) (nu := nu) (cu := cu) (cs := #[.string x.iss, .string x.sch, .int .i64 x.ver, .slice A n c, .string x.a, .string x.e, .string x.v, .int .i64 x.ep, .string x.wit]) (T := 44))
  have HAC : Hid (∀ W, BxB w sec Aa na ca Ah nh ch Au nu cu #[.string x.iss, .string x.sch, .int .i64 x.ver, .slice A n c, .string x.a, .string x.e, .string x.v, .int .i64 x.ep, .string x.wit] 44 W → W.cell? ⟨w.heap.size + 1, 0, none⟩ = some (.string x.iss) ∧ W.cell? ⟨w.heap.size + 1, 1, none⟩ = some (.string x.sch) ∧ W.cell? ⟨w.heap.size + 1, 2, none⟩ = some (.int .i64 x.ver) ∧ W.cell? ⟨w.heap.size + 1, 3, none⟩ = some (.slice A n c) ∧ W.cell? ⟨w.heap.size + 1, 4, none⟩ = some (.string x.a) ∧ W.cell? ⟨w.heap.size + 1, 5, none⟩ = some (.string x.e) ∧ W.cell? ⟨w.heap.size + 1, 6, none⟩ = some (.string x.v) ∧ W.cell? ⟨w.heap.size + 1, 7, none⟩ = some (.int .i64 x.ep) ∧ W.cell? ⟨w.heap.size + 1, 8, none⟩ = some (.string x.wit)) := Lib.hid (fun W h => ⟨cell_of_row _ _ 0 _ _ _ h.arg, cell_of_row _ _ 1 _ _ _ h.arg, cell_of_row _ _ 2 _ _ _ h.arg, cell_of_row _ _ 3 _ _ _ h.arg, cell_of_row _ _ 4 _ _ _ h.arg, cell_of_row _ _ 5 _ _ _ h.arg, cell_of_row _ _ 6 _ _ _ h.arg, cell_of_row _ _ 7 _ _ _ h.arg, cell_of_row _ _ 8 _ _ _ h.arg⟩)
  clear h hS ho hq hn hu hv hc hrow hnl
  go_enter Try.func23, Try.ntmps23
  go_wp2_with (first
    | (go_at_call 13; (with_reducible refine (HV.out _ HB0.out.bel).mono ?_); rintro e w1 ⟨rfl, hb1⟩; have HB1 := Lib.hid (HB0.out.next hb1); obtain ⟨q0, q1, q2, q3, q4, q5, q6, q7, q8⟩ := HAC.out _ HB1.out; clear hb1)
    | (go_at_call 36; (with_reducible refine (HNM.out _ HB1.out.bel).mono ?_); rintro e w2 ⟨A', n', c', rfl, hn', hs', hb2⟩; have HB2 := Lib.hid (HB1.out.next hb2); have HC2 := Lib.hid (HCAN.out A' n' c' w2 hn' hs'); obtain ⟨⟨r0, r1, r2, r3⟩, g0, g1, g2, g3⟩ := HB2.out.rc; clear hb2 hn' hs')
    | (go_at_call 35; (with_reducible refine HC2.out.mono ?_); rintro e w3 ⟨rfl, rfl⟩))
  refine bodyPost_ret (v := .tuple #[.agg #[.string ⟨#[]⟩, .slice none 0 0, .slice none 0 0, .slice none 0 0], .string ⟨#[]⟩, .int .i64 3]) (by simp [results, Try.results23, go_sem, r0, r1, r2, r3]) rfl ?_
  exact ⟨rfl, HB2.out.zero _ _ _ _⟩
end Go.Proofs.Ytlheedcnmfekoaa
