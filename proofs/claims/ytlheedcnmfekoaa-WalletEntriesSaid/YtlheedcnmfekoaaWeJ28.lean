/- Wallet: the entries renewed and held are short. Wallet: Store; printed by genVst.py. -/
import Derived.Test.YtlheedcnmfekoaaWeJ26
import Derived.Test.YtlheedcnmfekoaaWeVaj
namespace Go.Proofs.Ytlheedcnmfekoaa
open Go.RowKit
set_option maxRecDepth 100000
set_option linter.unusedVariables false
set_option maxHeartbeats 8000000
/-- The bytes of a list of numbers. -/
def sumN : List ByteArray → Nat
  | [] => 0
  | x :: r => x.size + sumN r
theorem natsI_le (l : List ByteArray) : (encI (natsI l)).length ≤ 11 * l.length + sumN l := by
  induction l with
  | nil => exact Nat.zero_le _
  | cons x r ih =>
    have e := encI_le 0 x ⟨#[]⟩ .nil (natsI r)
    simp only [natsI, sumN, List.length_cons, encI_nil, size_nil] at *
    omega
/-- The bytes of a held credential. -/
def sizeH (x : Hz) : Nat := x.iss.size + x.sch.size + sumN x.att + x.a.size + x.e.size + x.v.size + x.wit.size
theorem heldL_le (x : Hz) (hv : -9223372036854775808 ≤ x.ver ∧ x.ver ≤ 9223372036854775807) (he : -9223372036854775808 ≤ x.ep ∧ x.ep ≤ 9223372036854775807) : (encI (heldL x)).length ≤ 161 + 11 * x.att.length + sizeH x := by
  have h1 := intIt_le hv
  have h2 := intIt_le he
  have h3 := natsI_le x.att
  have e9 := encI_le 0 x.wit ⟨#[]⟩ .nil .nil
  have e8 := encI_le 2 ⟨#[]⟩ ⟨#[]⟩ (intIt x.ep) (.cons 0 x.wit ⟨#[]⟩ .nil .nil)
  have e7 := encI_le 0 x.v ⟨#[]⟩ .nil (.cons 2 ⟨#[]⟩ ⟨#[]⟩ (intIt x.ep) (.cons 0 x.wit ⟨#[]⟩ .nil .nil))
  have e6 := encI_le 0 x.e ⟨#[]⟩ .nil (.cons 0 x.v ⟨#[]⟩ .nil (.cons 2 ⟨#[]⟩ ⟨#[]⟩ (intIt x.ep) (.cons 0 x.wit ⟨#[]⟩ .nil .nil)))
  have e5 := encI_le 0 x.a ⟨#[]⟩ .nil (.cons 0 x.e ⟨#[]⟩ .nil (.cons 0 x.v ⟨#[]⟩ .nil (.cons 2 ⟨#[]⟩ ⟨#[]⟩ (intIt x.ep) (.cons 0 x.wit ⟨#[]⟩ .nil .nil))))
  have e4 := encI_le 2 ⟨#[]⟩ ⟨#[]⟩ (natsI x.att) (.cons 0 x.a ⟨#[]⟩ .nil (.cons 0 x.e ⟨#[]⟩ .nil (.cons 0 x.v ⟨#[]⟩ .nil (.cons 2 ⟨#[]⟩ ⟨#[]⟩ (intIt x.ep) (.cons 0 x.wit ⟨#[]⟩ .nil .nil)))))
  have e3 := encI_le 2 ⟨#[]⟩ ⟨#[]⟩ (intIt x.ver) (.cons 2 ⟨#[]⟩ ⟨#[]⟩ (natsI x.att) (.cons 0 x.a ⟨#[]⟩ .nil (.cons 0 x.e ⟨#[]⟩ .nil (.cons 0 x.v ⟨#[]⟩ .nil (.cons 2 ⟨#[]⟩ ⟨#[]⟩ (intIt x.ep) (.cons 0 x.wit ⟨#[]⟩ .nil .nil))))))
  have e2 := encI_le 1 ⟨#[]⟩ x.sch .nil (.cons 2 ⟨#[]⟩ ⟨#[]⟩ (intIt x.ver) (.cons 2 ⟨#[]⟩ ⟨#[]⟩ (natsI x.att) (.cons 0 x.a ⟨#[]⟩ .nil (.cons 0 x.e ⟨#[]⟩ .nil (.cons 0 x.v ⟨#[]⟩ .nil (.cons 2 ⟨#[]⟩ ⟨#[]⟩ (intIt x.ep) (.cons 0 x.wit ⟨#[]⟩ .nil .nil)))))))
  have e1 := encI_le 1 ⟨#[]⟩ x.iss .nil (.cons 1 ⟨#[]⟩ x.sch .nil (.cons 2 ⟨#[]⟩ ⟨#[]⟩ (intIt x.ver) (.cons 2 ⟨#[]⟩ ⟨#[]⟩ (natsI x.att) (.cons 0 x.a ⟨#[]⟩ .nil (.cons 0 x.e ⟨#[]⟩ .nil (.cons 0 x.v ⟨#[]⟩ .nil (.cons 2 ⟨#[]⟩ ⟨#[]⟩ (intIt x.ep) (.cons 0 x.wit ⟨#[]⟩ .nil .nil))))))))
  unfold heldL sizeH
  simp only [encI_nil, size_nil] at *
  omega
theorem renewI_le (k : Int) (x : Hz) (hk : -9223372036854775808 ≤ k ∧ k ≤ 9223372036854775807) (hv : -9223372036854775808 ≤ x.ver ∧ x.ver ≤ 9223372036854775807) (he : -9223372036854775808 ≤ x.ep ∧ x.ep ≤ 9223372036854775807) (hn : x.att.length ≤ 1000) (hs : sizeH x ≤ 100000000) : (encOne (entOf ⟨#[114, 101, 110, 101, 119, 101, 100]⟩ (renewI k x))).length ≤ 200000000 := by
  have h0 := intIt_le hk
  have h1 := heldL_le x hv he
  have e0 := encOne_le (.cons 1 ⟨#[]⟩ ⟨#[114, 101, 110, 101, 119, 101, 100]⟩ .nil (renewI k x))
  have e1 := encI_le 1 ⟨#[]⟩ ⟨#[114, 101, 110, 101, 119, 101, 100]⟩ .nil (renewI k x)
  have e2 := encI_le 2 ⟨#[]⟩ ⟨#[]⟩ (intIt k) (.cons 2 ⟨#[]⟩ ⟨#[]⟩ (heldL x) .nil)
  have e3 := encI_le 2 ⟨#[]⟩ ⟨#[]⟩ (heldL x) .nil
  have hn7 : (⟨#[114, 101, 110, 101, 119, 101, 100]⟩ : ByteArray).size = 7 := rfl
  unfold entOf
  unfold renewI at *
  simp only [encI_nil, size_nil, hn7] at *
  omega
theorem heldI_le (n : ByteArray) (x : Hz) (hz : n.size ≤ 100000) (hv : -9223372036854775808 ≤ x.ver ∧ x.ver ≤ 9223372036854775807) (he : -9223372036854775808 ≤ x.ep ∧ x.ep ≤ 9223372036854775807) (hn : x.att.length ≤ 1000) (hs : sizeH x ≤ 100000000) : (encOne (entOf ⟨#[104, 101, 108, 100]⟩ (heldI n x))).length ≤ 200000000 := by
  have h1 := heldL_le x hv he
  have e0 := encOne_le (.cons 1 ⟨#[]⟩ ⟨#[104, 101, 108, 100]⟩ .nil (heldI n x))
  have e1 := encI_le 1 ⟨#[]⟩ ⟨#[104, 101, 108, 100]⟩ .nil (heldI n x)
  have e2 := encI_le 1 ⟨#[]⟩ n .nil (.cons 2 ⟨#[]⟩ ⟨#[]⟩ (heldL x) .nil)
  have e3 := encI_le 2 ⟨#[]⟩ ⟨#[]⟩ (heldL x) .nil
  have hn7 : (⟨#[104, 101, 108, 100]⟩ : ByteArray).size = 4 := rfl
  unfold entOf
  unfold heldI at *
  simp only [encI_nil, size_nil, hn7] at *
  omega
/-- Store where the wallet is not valid. -/
theorem wal_Store_inv (sec : ByteArray) (qs : List Az) (hs : List Hz) (us : List Uz) (Aa Ah Au : Option Addr) (na ca nh ch nu cu : Nat) (nc : ByteArray) (x : Hz) (A : Option Addr) (n c : Nat) (S : Nat → Prop) (w : World) (hq : qs.length = na) (hn : hs.length = nh) (hu : us.length = nu) (ho : WalOk qs hs us) (hv : validW sec qs hs us = false) (h : WalM w S qs hs us Aa Ah Au) (hS : ∀ g, S g → g < w.heap.size) :
    Calls Try.prog 22 #[.agg #[.string sec, .slice Aa na ca, .slice Ah nh ch, .slice Au nu cu], .string nc, valH x A n c] w (ZeroErr w 3) := by
  unfold valH
  have HV := Lib.hid (fun W (hb : Below w.heap.size w W) => wal_valid sec qs hs us Aa Ah Au na ca nh ch nu cu S W hq hn hu (by have := ho.na; omega) (by have := ho.nh; omega) (by have := ho.nu; omega) ho.nonce ho.att ho.scope (h.keep (fun q hq => hb.cell (hS _ hq))) (fun g hg => Nat.lt_of_lt_of_le (hS g hg) hb.size))
  rw [hv] at HV
  have HB0 := Lib.hid (BxB.start (w := w) (sec := sec) (Aa := Aa) (na := na) (ca := ca) (Ah := Ah) (nh := nh) (ch := ch) (Au := Au) (nu := nu) (cu := cu) (cs := #[.string x.iss, .string x.sch, .int .i64 x.ver, .slice A n c, .string x.a, .string x.e, .string x.v, .int .i64 x.ep, .string x.wit]) (T := 44))
  clear h hS ho hq hn hu hv
  go_enter Try.func22, Try.ntmps22
  go_wp2_with (go_at_call 13; (with_reducible refine (HV.out _ HB0.out.bel).mono ?_); rintro e w1 ⟨rfl, hb1⟩; have HB1 := Lib.hid (HB0.out.next hb1); obtain ⟨⟨r0, r1, r2, r3⟩, g0, g1, g2, g3⟩ := HB1.out.rc; clear hb1)
  refine bodyPost_ret (v := .tuple #[.agg #[.string ⟨#[]⟩, .slice none 0 0, .slice none 0 0, .slice none 0 0], .string ⟨#[]⟩, .int .i64 3]) (by simp [results, Try.results22, go_sem, r0, r1, r2, r3]) rfl ?_
  exact ⟨rfl, HB1.out.zero _ _ _ _⟩
/-- Store where a number is not canonical. -/
theorem wal_Store_can (sec : ByteArray) (qs : List Az) (hs : List Hz) (us : List Uz) (Aa Ah Au : Option Addr) (na ca nh ch nu cu : Nat) (nc : ByteArray) (x : Hz) (A : Option Addr) (n c : Nat) (S : Nat → Prop) (w : World) (hq : qs.length = na) (hn : hs.length = nh) (hu : us.length = nu) (ho : WalOk qs hs us) (hv : validW sec qs hs us = true) (hc : (numsH x).all valid = false) (hnx : x.att.length = n) (hmn : n ≤ 1000) (hnl : (numsH x).length ≤ 100000) (hrow : RowC w S A n (cellsN x.att)) (h : WalM w S qs hs us Aa Ah Au) (hS : ∀ g, S g → g < w.heap.size) :
    Calls Try.prog 22 #[.agg #[.string sec, .slice Aa na ca, .slice Ah nh ch, .slice Au nu cu], .string nc, valH x A n c] w (ZeroErr w 3) := by
  have HV := Lib.hid (fun W (hb : Below w.heap.size w W) => wal_valid sec qs hs us Aa Ah Au na ca nh ch nu cu S W hq hn hu (by have := ho.na; omega) (by have := ho.nh; omega) (by have := ho.nu; omega) ho.nonce ho.att ho.scope (h.keep (fun q hq => hb.cell (hS _ hq))) (fun g hg => Nat.lt_of_lt_of_le (hS g hg) hb.size))
  rw [hv] at HV
  have HNM := Lib.hid (fun W (hb : Below w.heap.size w W) => wal_numbers x A n c S W hnx (by omega) (hrow.keep (fun q hq => hb.cell (hS _ hq))) (fun g hg => Nat.lt_of_lt_of_le (hS g hg) hb.size))
  unfold valH at HNM ⊢
  have HCAN := Lib.hid (fun A' n' c' W (hn' : n' = (numsH x).length) (hs : SLs W W.heap.size A' (numsH x)) => wal_canonical (numsH x) A' n' c' W.heap.size W hn'.symm (by omega) hs)
  rw [hc] at HCAN
  have HB0 := Lib.hid (BxB.start (w := w) (sec := sec) (Aa := Aa) (na := na) (ca := ca) (Ah := Ah) (nh := nh) (ch := ch) (Au := Au) (nu := nu) (cu := cu) (cs := #[.string x.iss, .string x.sch, .int .i64 x.ver, .slice A n c, .string x.a, .string x.e, .string x.v, .int .i64 x.ep, .string x.wit]) (T := 44))
  have HAC : Hid (∀ W, BxB w sec Aa na ca Ah nh ch Au nu cu #[.string x.iss, .string x.sch, .int .i64 x.ver, .slice A n c, .string x.a, .string x.e, .string x.v, .int .i64 x.ep, .string x.wit] 44 W → W.cell? ⟨w.heap.size + 1, 0, none⟩ = some (.string x.iss) ∧ W.cell? ⟨w.heap.size + 1, 1, none⟩ = some (.string x.sch) ∧ W.cell? ⟨w.heap.size + 1, 2, none⟩ = some (.int .i64 x.ver) ∧ W.cell? ⟨w.heap.size + 1, 3, none⟩ = some (.slice A n c) ∧ W.cell? ⟨w.heap.size + 1, 4, none⟩ = some (.string x.a) ∧ W.cell? ⟨w.heap.size + 1, 5, none⟩ = some (.string x.e) ∧ W.cell? ⟨w.heap.size + 1, 6, none⟩ = some (.string x.v) ∧ W.cell? ⟨w.heap.size + 1, 7, none⟩ = some (.int .i64 x.ep) ∧ W.cell? ⟨w.heap.size + 1, 8, none⟩ = some (.string x.wit)) := Lib.hid (fun W h => ⟨cell_of_row _ _ 0 _ _ _ h.arg, cell_of_row _ _ 1 _ _ _ h.arg, cell_of_row _ _ 2 _ _ _ h.arg, cell_of_row _ _ 3 _ _ _ h.arg, cell_of_row _ _ 4 _ _ _ h.arg, cell_of_row _ _ 5 _ _ _ h.arg, cell_of_row _ _ 6 _ _ _ h.arg, cell_of_row _ _ 7 _ _ _ h.arg, cell_of_row _ _ 8 _ _ _ h.arg⟩)
  clear h hS ho hq hn hu hv hc hrow hnl
  go_enter Try.func22, Try.ntmps22
  go_wp2_with (first
    | (go_at_call 13; (with_reducible refine (HV.out _ HB0.out.bel).mono ?_); rintro e w1 ⟨rfl, hb1⟩; have HB1 := Lib.hid (HB0.out.next hb1); obtain ⟨q0, q1, q2, q3, q4, q5, q6, q7, q8⟩ := HAC.out _ HB1.out; clear hb1)
    | (go_at_call 36; (with_reducible refine (HNM.out _ HB1.out.bel).mono ?_); rintro e w2 ⟨A', n', c', rfl, hn', hs', hb2⟩; have HB2 := Lib.hid (HB1.out.next hb2); have HC2 := Lib.hid (HCAN.out A' n' c' w2 hn' hs'); obtain ⟨⟨r0, r1, r2, r3⟩, g0, g1, g2, g3⟩ := HB2.out.rc; clear hb2 hn' hs')
    | (go_at_call 35; (with_reducible refine HC2.out.mono ?_); rintro e w3 ⟨rfl, rfl⟩))
  refine bodyPost_ret (v := .tuple #[.agg #[.string ⟨#[]⟩, .slice none 0 0, .slice none 0 0, .slice none 0 0], .string ⟨#[]⟩, .int .i64 3]) (by simp [results, Try.results22, go_sem, r0, r1, r2, r3]) rfl ?_
  exact ⟨rfl, HB2.out.zero _ _ _ _⟩
end Go.Proofs.Ytlheedcnmfekoaa
