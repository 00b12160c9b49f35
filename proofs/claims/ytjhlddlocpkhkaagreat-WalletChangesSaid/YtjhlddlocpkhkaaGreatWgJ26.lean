/- Wallet: the entries renewed and held are short. Wallet: Store; printed by genVst.py. Wallet: Store over store's contract; printed by genVst.py. -/
import Derived.Test.YtjhlddlocpkhkaaGreatWgJ24
import Derived.Test.YtjhlddlocpkhkaaGreatWgVaj
namespace Go.Proofs.YtjhlddlocpkhkaaGreat
open Go.RowKit
set_option maxRecDepth 100000
set_option linter.unusedVariables false
set_option maxHeartbeats 8000000
/-- The bytes of a list of numbers. -/
def sumN : List ByteArray → Nat
  | [] => 0
  | x :: r => x.size + sumN r
theorem natsI_le (l : List ByteArray) : (encI (natsI l)).length ≤ 11 * l.length + sumN l := by
  induction l with
  | nil => exact Nat.zero_le _
  | cons x r ih =>
    have e := encI_le 0 x ⟨#[]⟩ .nil (natsI r)
    simp only [natsI, sumN, List.length_cons, encI_nil, size_nil] at *
    omega
/-- The bytes of a held credential. -/
def sizeH (x : Hz) : Nat := x.iss.size + x.sch.size + sumN x.att + x.a.size + x.e.size + x.v.size + x.wit.size
theorem heldL_le (x : Hz) (hv : -9223372036854775808 ≤ x.ver ∧ x.ver ≤ 9223372036854775807) (he : -9223372036854775808 ≤ x.ep ∧ x.ep ≤ 9223372036854775807) : (encI (heldL x)).length ≤ 161 + 11 * x.att.length + sizeH x := by
  have h1 := intIt_le hv
  have h2 := intIt_le he
  have h3 := natsI_le x.att
  have e9 := encI_le 0 x.wit ⟨#[]⟩ .nil .nil
  have e8 := encI_le 2 ⟨#[]⟩ ⟨#[]⟩ (intIt x.ep) (.cons 0 x.wit ⟨#[]⟩ .nil .nil)
  have e7 := encI_le 0 x.v ⟨#[]⟩ .nil (.cons 2 ⟨#[]⟩ ⟨#[]⟩ (intIt x.ep) (.cons 0 x.wit ⟨#[]⟩ .nil .nil))
  have e6 := encI_le 0 x.e ⟨#[]⟩ .nil (.cons 0 x.v ⟨#[]⟩ .nil (.cons 2 ⟨#[]⟩ ⟨#[]⟩ (intIt x.ep) (.cons 0 x.wit ⟨#[]⟩ .nil .nil)))
  have e5 := encI_le 0 x.a ⟨#[]⟩ .nil (.cons 0 x.e ⟨#[]⟩ .nil (.cons 0 x.v ⟨#[]⟩ .nil (.cons 2 ⟨#[]⟩ ⟨#[]⟩ (intIt x.ep) (.cons 0 x.wit ⟨#[]⟩ .nil .nil))))
  have e4 := encI_le 2 ⟨#[]⟩ ⟨#[]⟩ (natsI x.att) (.cons 0 x.a ⟨#[]⟩ .nil (.cons 0 x.e ⟨#[]⟩ .nil (.cons 0 x.v ⟨#[]⟩ .nil (.cons 2 ⟨#[]⟩ ⟨#[]⟩ (intIt x.ep) (.cons 0 x.wit ⟨#[]⟩ .nil .nil)))))
  have e3 := encI_le 2 ⟨#[]⟩ ⟨#[]⟩ (intIt x.ver) (.cons 2 ⟨#[]⟩ ⟨#[]⟩ (natsI x.att) (.cons 0 x.a ⟨#[]⟩ .nil (.cons 0 x.e ⟨#[]⟩ .nil (.cons 0 x.v ⟨#[]⟩ .nil (.cons 2 ⟨#[]⟩ ⟨#[]⟩ (intIt x.ep) (.cons 0 x.wit ⟨#[]⟩ .nil .nil))))))
  have e2 := encI_le 1 ⟨#[]⟩ x.sch .nil (.cons 2 ⟨#[]⟩ ⟨#[]⟩ (intIt x.ver) (.cons 2 ⟨#[]⟩ ⟨#[]⟩ (natsI x.att) (.cons 0 x.a ⟨#[]⟩ .nil (.cons 0 x.e ⟨#[]⟩ .nil (.cons 0 x.v ⟨#[]⟩ .nil (.cons 2 ⟨#[]⟩ ⟨#[]⟩ (intIt x.ep) (.cons 0 x.wit ⟨#[]⟩ .nil .nil)))))))
  have e1 := encI_le 1 ⟨#[]⟩ x.iss .nil (.cons 1 ⟨#[]⟩ x.sch .nil (.cons 2 ⟨#[]⟩ ⟨#[]⟩ (intIt x.ver) (.cons 2 ⟨#[]⟩ ⟨#[]⟩ (natsI x.att) (.cons 0 x.a ⟨#[]⟩ .nil (.cons 0 x.e ⟨#[]⟩ .nil (.cons 0 x.v ⟨#[]⟩ .nil (.cons 2 ⟨#[]⟩ ⟨#[]⟩ (intIt x.ep) (.cons 0 x.wit ⟨#[]⟩ .nil .nil))))))))
  unfold heldL sizeH
  simp only [encI_nil, size_nil] at *
  omega
theorem renewI_le (k : Int) (x : Hz) (hk : -9223372036854775808 ≤ k ∧ k ≤ 9223372036854775807) (hv : -9223372036854775808 ≤ x.ver ∧ x.ver ≤ 9223372036854775807) (he : -9223372036854775808 ≤ x.ep ∧ x.ep ≤ 9223372036854775807) (hn : x.att.length ≤ 1000) (hs : sizeH x ≤ 100000000) : (encOne (entOf ⟨#[114, 101, 110, 101, 119, 101, 100]⟩ (renewI k x))).length ≤ 200000000 := by
  have h0 := intIt_le hk
  have h1 := heldL_le x hv he
  have e0 := encOne_le (.cons 1 ⟨#[]⟩ ⟨#[114, 101, 110, 101, 119, 101, 100]⟩ .nil (renewI k x))
  have e1 := encI_le 1 ⟨#[]⟩ ⟨#[114, 101, 110, 101, 119, 101, 100]⟩ .nil (renewI k x)
  have e2 := encI_le 2 ⟨#[]⟩ ⟨#[]⟩ (intIt k) (.cons 2 ⟨#[]⟩ ⟨#[]⟩ (heldL x) .nil)
  have e3 := encI_le 2 ⟨#[]⟩ ⟨#[]⟩ (heldL x) .nil
  have hn7 : (⟨#[114, 101, 110, 101, 119, 101, 100]⟩ : ByteArray).size = 7 := rfl
  unfold entOf
  unfold renewI at *
  simp only [encI_nil, size_nil, hn7] at *
  omega
theorem heldI_le (n : ByteArray) (x : Hz) (hz : n.size ≤ 100000) (hv : -9223372036854775808 ≤ x.ver ∧ x.ver ≤ 9223372036854775807) (he : -9223372036854775808 ≤ x.ep ∧ x.ep ≤ 9223372036854775807) (hn : x.att.length ≤ 1000) (hs : sizeH x ≤ 100000000) : (encOne (entOf ⟨#[104, 101, 108, 100]⟩ (heldI n x))).length ≤ 200000000 := by
  have h1 := heldL_le x hv he
  have e0 := encOne_le (.cons 1 ⟨#[]⟩ ⟨#[104, 101, 108, 100]⟩ .nil (heldI n x))
  have e1 := encI_le 1 ⟨#[]⟩ ⟨#[104, 101, 108, 100]⟩ .nil (heldI n x)
  have e2 := encI_le 1 ⟨#[]⟩ n .nil (.cons 2 ⟨#[]⟩ ⟨#[]⟩ (heldL x) .nil)
  have e3 := encI_le 2 ⟨#[]⟩ ⟨#[]⟩ (heldL x) .nil
  have hn7 : (⟨#[104, 101, 108, 100]⟩ : ByteArray).size = 4 := rfl
  unfold entOf
  unfold heldI at *
  simp only [encI_nil, size_nil, hn7] at *
  omega
/-- Store where the wallet is not valid. -/
theorem wal_Store_inv (sec : ByteArray) (qs : List Az) (hs : List Hz) (us : List Uz) (Aa Ah Au : Option Addr) (na ca nh ch nu cu : Nat) (nc : ByteArray) (x : Hz) (A : Option Addr) (n c : Nat) (S : Nat → Prop) (w : World) (hq : qs.length = na) (hn : hs.length = nh) (hu : us.length = nu) (ho : WalOk qs hs us) (hv : validW sec qs hs us = false) (h : WalM w S qs hs us Aa Ah Au) (hS : ∀ g, S g → g < w.heap.size) :
    Calls Tryz.prog 44 #[.agg #[.string sec, .slice Aa na ca, .slice Ah nh ch, .slice Au nu cu], .string nc, valH x A n c] w (ZeroErr w 3) := by
  unfold valH
  have HV := Lib.hid (fun W (hb : Below w.heap.size w W) => wal_valid sec qs hs us Aa Ah Au na ca nh ch nu cu S W hq hn hu (by have := ho.na; omega) (by have := ho.nh; omega) (by have := ho.nu; omega) ho.nonce ho.att ho.scope (h.keep (fun q hq => hb.cell (hS _ hq))) (fun g hg => Nat.lt_of_lt_of_le (hS g hg) hb.size))
  rw [hv] at HV
  have HB0 := Lib.hid (BxB.start (w := w) (sec := sec) (Aa := Aa) (na := na) (ca := ca) (Ah := Ah) (nh := nh) (ch := ch) (Au := Au) (nu := nu) (cu := cu) (cs := #[.string x.iss, .string x.sch, .int .i64 x.ver, .slice A n c, .string x.a, .string x.e, .string x.v, .int .i64 x.ep, .string x.wit]) (T := 47))
  clear h hS ho hq hn hu hv
  go_enter Tryz.func44, Tryz.ntmps44
  go_wp2_with (go_at_call 17; (with_reducible refine (HV.out _ HB0.out.bel).mono ?_); rintro e w1 ⟨rfl, hb1⟩; have HB1 := Lib.hid (HB0.out.next hb1); obtain ⟨⟨r0, r1, r2, r3⟩, g0, g1, g2, g3⟩ := HB1.out.rc; clear hb1)
  refine bodyPost_ret (v := .tuple #[.agg #[.string ⟨#[]⟩, .slice none 0 0, .slice none 0 0, .slice none 0 0], .string ⟨#[]⟩, .int .i64 3]) (by simp [results, Tryz.results44, go_sem, r0, r1, r2, r3]) rfl ?_
  exact ⟨rfl, HB1.out.zero _ _ _ _⟩
/-- Store where a number is not canonical. -/
theorem wal_Store_can (sec : ByteArray) (qs : List Az) (hs : List Hz) (us : List Uz) (Aa Ah Au : Option Addr) (na ca nh ch nu cu : Nat) (nc : ByteArray) (x : Hz) (A : Option Addr) (n c : Nat) (S : Nat → Prop) (w : World) (hq : qs.length = na) (hn : hs.length = nh) (hu : us.length = nu) (ho : WalOk qs hs us) (hv : validW sec qs hs us = true) (hc : (numsH x).all valid = false) (hnx : x.att.length = n) (hmn : n ≤ 1000) (hnl : (numsH x).length ≤ 100000) (hrow : RowC w S A n (cellsN x.att)) (h : WalM w S qs hs us Aa Ah Au) (hS : ∀ g, S g → g < w.heap.size) :
    Calls Tryz.prog 44 #[.agg #[.string sec, .slice Aa na ca, .slice Ah nh ch, .slice Au nu cu], .string nc, valH x A n c] w (ZeroErr w 3) := by
  have HV := Lib.hid (fun W (hb : Below w.heap.size w W) => wal_valid sec qs hs us Aa Ah Au na ca nh ch nu cu S W hq hn hu (by have := ho.na; omega) (by have := ho.nh; omega) (by have := ho.nu; omega) ho.nonce ho.att ho.scope (h.keep (fun q hq => hb.cell (hS _ hq))) (fun g hg => Nat.lt_of_lt_of_le (hS g hg) hb.size))
  rw [hv] at HV
  have HNM := Lib.hid (fun W (hb : Below w.heap.size w W) => wal_numbers x A n c S W hnx (by omega) (hrow.keep (fun q hq => hb.cell (hS _ hq))) (fun g hg => Nat.lt_of_lt_of_le (hS g hg) hb.size))
  unfold valH at HNM ⊢
  have HCAN := Lib.hid (fun A' n' c' W (hn' : n' = (numsH x).length) (hs : SLs W W.heap.size A' (numsH x)) => wal_canonical (numsH x) A' n' c' W.heap.size W hn'.symm (by omega) hs)
  rw [hc] at HCAN
  have HB0 := Lib.hid (BxB.start (w := w) (sec := sec) (Aa := Aa) (na := na) (ca := ca) (Ah := Ah) (nh := nh) (ch := ch) (Au := Au) (nu := nu) (cu := cu) (cs := #[.string x.iss, .string x.sch, .int .i64 x.ver, .slice A n c, .string x.a, .string x.e, .string x.v, .int .i64 x.ep, .string x.wit]) (T := 47))
  have HAC : Hid (∀ W, BxB w sec Aa na ca Ah nh ch Au nu cu #[.string x.iss, .string x.sch, .int .i64 x.ver, .slice A n c, .string x.a, .string x.e, .string x.v, .int .i64 x.ep, .string x.wit] 47 W → W.cell? ⟨w.heap.size + 1, 0, none⟩ = some (.string x.iss) ∧ W.cell? ⟨w.heap.size + 1, 1, none⟩ = some (.string x.sch) ∧ W.cell? ⟨w.heap.size + 1, 2, none⟩ = some (.int .i64 x.ver) ∧ W.cell? ⟨w.heap.size + 1, 3, none⟩ = some (.slice A n c) ∧ W.cell? ⟨w.heap.size + 1, 4, none⟩ = some (.string x.a) ∧ W.cell? ⟨w.heap.size + 1, 5, none⟩ = some (.string x.e) ∧ W.cell? ⟨w.heap.size + 1, 6, none⟩ = some (.string x.v) ∧ W.cell? ⟨w.heap.size + 1, 7, none⟩ = some (.int .i64 x.ep) ∧ W.cell? ⟨w.heap.size + 1, 8, none⟩ = some (.string x.wit)) := Lib.hid (fun W h => ⟨cell_of_row _ _ 0 _ _ _ h.arg, cell_of_row _ _ 1 _ _ _ h.arg, cell_of_row _ _ 2 _ _ _ h.arg, cell_of_row _ _ 3 _ _ _ h.arg, cell_of_row _ _ 4 _ _ _ h.arg, cell_of_row _ _ 5 _ _ _ h.arg, cell_of_row _ _ 6 _ _ _ h.arg, cell_of_row _ _ 7 _ _ _ h.arg, cell_of_row _ _ 8 _ _ _ h.arg⟩)
  clear h hS ho hq hn hu hv hc hrow hnl
  go_enter Tryz.func44, Tryz.ntmps44
  go_wp2_with (first
    | (go_at_call 17; (with_reducible refine (HV.out _ HB0.out.bel).mono ?_); rintro e w1 ⟨rfl, hb1⟩; have HB1 := Lib.hid (HB0.out.next hb1); obtain ⟨q0, q1, q2, q3, q4, q5, q6, q7, q8⟩ := HAC.out _ HB1.out; clear hb1)
    | (go_at_call 56; (with_reducible refine (HNM.out _ HB1.out.bel).mono ?_); rintro e w2 ⟨A', n', c', rfl, hn', hs', hb2⟩; have HB2 := Lib.hid (HB1.out.next hb2); have HC2 := Lib.hid (HCAN.out A' n' c' w2 hn' hs'); obtain ⟨⟨r0, r1, r2, r3⟩, g0, g1, g2, g3⟩ := HB2.out.rc; clear hb2 hn' hs')
    | (go_at_call 55; (with_reducible refine HC2.out.mono ?_); rintro e w3 ⟨rfl, rfl⟩))
  refine bodyPost_ret (v := .tuple #[.agg #[.string ⟨#[]⟩, .slice none 0 0, .slice none 0 0, .slice none 0 0], .string ⟨#[]⟩, .int .i64 3]) (by simp [results, Tryz.results44, go_sem, r0, r1, r2, r3]) rfl ?_
  exact ⟨rfl, HB2.out.zero _ _ _ _⟩
/-- Store where store gives an error. -/
theorem wal_Store_err (sec : ByteArray) (qs : List Az) (hs : List Hz) (us : List Uz) (Aa Ah Au : Option Addr) (na ca nh ch nu cu : Nat) (nc : ByteArray) (x : Hz) (A : Option Addr) (n c : Nat) (S : Nat → Prop) (w : World) (hq : qs.length = na) (hn : hs.length = nh) (hu : us.length = nu) (ho : WalOk qs hs us) (hv : validW sec qs hs us = true) (hc : (numsH x).all valid = true) (hnx : x.att.length = n) (hmn : n ≤ 1000) (hnl : (numsH x).length ≤ 100000) (hxv : -9223372036854775808 ≤ x.ver ∧ x.ver ≤ 9223372036854775807) (hxe : -9223372036854775808 ≤ x.ep ∧ x.ep ≤ 9223372036854775807) (hrow : RowC w S A n (cellsN x.att)) (h : WalM w S qs hs us Aa Ah Au) (hS : ∀ g, S g → g < w.heap.size) (z : Int) (hz : z ≠ 0) (hren : ∀ W, Below w.heap.size w W → Calls Tryz.prog 63 #[.agg #[.string sec, .slice Aa na ca, .slice Ah nh ch, .slice Au nu cu], .string nc, valH x A n c] W (ChErr W z)) :
    Calls Tryz.prog 44 #[.agg #[.string sec, .slice Aa na ca, .slice Ah nh ch, .slice Au nu cu], .string nc, valH x A n c] w (ZeroErr w z) := by
  have HV := Lib.hid (fun W (hb : Below w.heap.size w W) => wal_valid sec qs hs us Aa Ah Au na ca nh ch nu cu S W hq hn hu (by have := ho.na; omega) (by have := ho.nh; omega) (by have := ho.nu; omega) ho.nonce ho.att ho.scope (h.keep (fun q hq => hb.cell (hS _ hq))) (fun g hg => Nat.lt_of_lt_of_le (hS g hg) hb.size))
  rw [hv] at HV
  have HNM := Lib.hid (fun W (hb : Below w.heap.size w W) => wal_numbers x A n c S W hnx (by omega) (hrow.keep (fun q hq => hb.cell (hS _ hq))) (fun g hg => Nat.lt_of_lt_of_le (hS g hg) hb.size))
  have HHI := Lib.hid (fun W (hb : Below w.heap.size w W) => wal_heldItem x A n c S W hnx hmn hxv hxe (hrow.keep (fun q hq => hb.cell (hS _ hq))) (fun g hg => Nat.lt_of_lt_of_le (hS g hg) hb.size))
  have HREN := Lib.hid hren
  unfold ItOut at HHI
  dsimp only at HHI
  have hl9 : (heldL x).len = 9 := rfl
  rw [hl9] at HHI
  unfold valH at HNM HHI HREN ⊢
  unfold ChErr at HREN
  have HWH := Lib.hid (fun W => enc_Text nc W)
  have HCAN := Lib.hid (fun A' n' c' W (hn' : n' = (numsH x).length) (hs : SLs W W.heap.size A' (numsH x)) => wal_canonical (numsH x) A' n' c' W.heap.size W hn'.symm (by omega) hs)
  rw [hc] at HCAN
  have HB0 := Lib.hid (BxB.start (w := w) (sec := sec) (Aa := Aa) (na := na) (ca := ca) (Ah := Ah) (nh := nh) (ch := ch) (Au := Au) (nu := nu) (cu := cu) (cs := #[.string x.iss, .string x.sch, .int .i64 x.ver, .slice A n c, .string x.a, .string x.e, .string x.v, .int .i64 x.ep, .string x.wit]) (T := 47))
  have HAC : Hid (∀ W, BxB w sec Aa na ca Ah nh ch Au nu cu #[.string x.iss, .string x.sch, .int .i64 x.ver, .slice A n c, .string x.a, .string x.e, .string x.v, .int .i64 x.ep, .string x.wit] 47 W → W.cell? ⟨w.heap.size + 1, 0, none⟩ = some (.string x.iss) ∧ W.cell? ⟨w.heap.size + 1, 1, none⟩ = some (.string x.sch) ∧ W.cell? ⟨w.heap.size + 1, 2, none⟩ = some (.int .i64 x.ver) ∧ W.cell? ⟨w.heap.size + 1, 3, none⟩ = some (.slice A n c) ∧ W.cell? ⟨w.heap.size + 1, 4, none⟩ = some (.string x.a) ∧ W.cell? ⟨w.heap.size + 1, 5, none⟩ = some (.string x.e) ∧ W.cell? ⟨w.heap.size + 1, 6, none⟩ = some (.string x.v) ∧ W.cell? ⟨w.heap.size + 1, 7, none⟩ = some (.int .i64 x.ep) ∧ W.cell? ⟨w.heap.size + 1, 8, none⟩ = some (.string x.wit)) := Lib.hid (fun W h => ⟨cell_of_row _ _ 0 _ _ _ h.arg, cell_of_row _ _ 1 _ _ _ h.arg, cell_of_row _ _ 2 _ _ _ h.arg, cell_of_row _ _ 3 _ _ _ h.arg, cell_of_row _ _ 4 _ _ _ h.arg, cell_of_row _ _ 5 _ _ _ h.arg, cell_of_row _ _ 6 _ _ _ h.arg, cell_of_row _ _ 7 _ _ _ h.arg, cell_of_row _ _ 8 _ _ _ h.arg⟩)
  clear h hS ho hq hn hu hv hc hrow hnl hren
  go_enter Tryz.func44, Tryz.ntmps44
  go_upto_region 3 with (first
    | (go_at_call 17; (with_reducible refine (HV.out _ HB0.out.bel).mono ?_); rintro e w1 ⟨rfl, hb1⟩; have HB1 := Lib.hid (HB0.out.next hb1); obtain ⟨q0, q1, q2, q3, q4, q5, q6, q7, q8⟩ := HAC.out _ HB1.out; clear hb1)
    | (go_at_call 56; (with_reducible refine (HNM.out _ HB1.out.bel).mono ?_); rintro e w2 ⟨A', n', c', rfl, hn', hs', hb2⟩; have HB2 := Lib.hid (HB1.out.next hb2); have HC2 := Lib.hid (HCAN.out A' n' c' w2 hn' hs'); clear hb2 hn' hs')
    | (go_at_call 55; (with_reducible refine HC2.out.mono ?_); rintro e w3 ⟨rfl, rfl⟩))
  clear q0 q1 q2 q3 q4 q5 q6 q7 q8 HC2 HB1 HB0
  obtain ⟨q0, q1, q2, q3, q4, q5, q6, q7, q8⟩ := HAC.out _ HB2.out
  obtain ⟨⟨x0, x1, x2, x3⟩, -⟩ := HB2.out.bc
  go_upto_region 4 with (go_at_call 63; (with_reducible refine (HREN.out _ HB2.out.bel).mono ?_); rintro e w3 ⟨rfl, hb3⟩; have HD := Lib.hid (AqD.start (sec' := ⟨#[]⟩) (n1 := 0) (c1 := 0) (n2 := 0) (c2 := 0) (n3 := 0) (c3 := 0) HB2.out hb3 walM_nil); clear hb3)
  obtain ⟨w4, hw4⟩ : ∃ w4, w3.alloc (.cells #[.string ⟨#[]⟩, .slice none 0 0, .slice none 0 0, .slice none 0 0] 27) = w4 := ⟨_, rfl⟩
  rw [hw4] at HD ⊢
  clear hw4 q0 q1 q2 q3 q4 q5 q6 q7 q8 x0 x1 x2 x3
  obtain ⟨b7, hb7⟩ : ∃ b, w3.heap.size = b := ⟨_, rfl⟩
  rw [hb7] at HD
  rw [hb7]
  clear hb7 HB2
  obtain ⟨P, hP⟩ : ∃ P : World → Prop, P = (fun W => AqD w sec Aa na ca Ah nh ch Au nu cu #[.string x.iss, .string x.sch, .int .i64 x.ver, .slice A n c, .string x.a, .string x.e, .string x.v, .int .i64 x.ep, .string x.wit] 47 ⟨#[]⟩ [] [] [] none 0 0 none 0 0 none 0 0 b7 W) := ⟨_, rfl⟩
  have HPN : Hid (∀ W w', P W → Below W.heap.size W w' → P w') := Lib.hid (by rw [hP]; exact fun W w' h hb => h.next hb)
  have HPA : Hid (∀ W, P W → AqD w sec Aa na ca Ah nh ch Au nu cu #[.string x.iss, .string x.sch, .int .i64 x.ver, .slice A n c, .string x.a, .string x.e, .string x.v, .int .i64 x.ep, .string x.wit] 47 ⟨#[]⟩ [] [] [] none 0 0 none 0 0 none 0 0 b7 W) := Lib.hid (by rw [hP]; exact fun W h => h)
  have H0 : Hid (RwK P (b7 + 1) [] w4) := Lib.hid ⟨by rw [hP]; exact HD.out, HD.out.hi, fun q hq => absurd hq (by simp)⟩
  clear hP
  have HCC : Hid (∀ L W, RwK P (b7 + 1) L W → W.cell? ⟨b7, 0, none⟩ = some (.string ⟨#[]⟩) ∧ W.cell? ⟨b7, 1, none⟩ = some (.slice none 0 0) ∧ W.cell? ⟨b7, 2, none⟩ = some (.slice none 0 0) ∧ W.cell? ⟨b7, 3, none⟩ = some (.slice none 0 0) ∧ W.cell? ⟨w.heap.size + 1, 0, none⟩ = some (.string x.iss) ∧ W.cell? ⟨w.heap.size + 1, 1, none⟩ = some (.string x.sch) ∧ W.cell? ⟨w.heap.size + 1, 2, none⟩ = some (.int .i64 x.ver) ∧ W.cell? ⟨w.heap.size + 1, 3, none⟩ = some (.slice A n c) ∧ W.cell? ⟨w.heap.size + 1, 4, none⟩ = some (.string x.a) ∧ W.cell? ⟨w.heap.size + 1, 5, none⟩ = some (.string x.e) ∧ W.cell? ⟨w.heap.size + 1, 6, none⟩ = some (.string x.v) ∧ W.cell? ⟨w.heap.size + 1, 7, none⟩ = some (.int .i64 x.ep) ∧ W.cell? ⟨w.heap.size + 1, 8, none⟩ = some (.string x.wit)) := Lib.hid (fun L W h => by
    have ha := HPA.out W h.p
    obtain ⟨e0, e1, e2, e3⟩ := ha.wc
    exact ⟨e0, e1, e2, e3, HAC.out W ha.bx⟩)
  have HCS : Hid (∀ L W, RwK P (b7 + 1) L W → ∀ v0 v1 v2 v3, ((((W.setCell ⟨w.heap.size + 1 + 1, 0, none⟩ v0).setCell ⟨w.heap.size + 1 + 1, 1, none⟩ v1).setCell ⟨w.heap.size + 1 + 1, 2, none⟩ v2).setCell ⟨w.heap.size + 1 + 1, 3, none⟩ v3).cell? ⟨b7, 0, none⟩ = some (.string ⟨#[]⟩) ∧ ((((W.setCell ⟨w.heap.size + 1 + 1, 0, none⟩ v0).setCell ⟨w.heap.size + 1 + 1, 1, none⟩ v1).setCell ⟨w.heap.size + 1 + 1, 2, none⟩ v2).setCell ⟨w.heap.size + 1 + 1, 3, none⟩ v3).cell? ⟨b7, 1, none⟩ = some (.slice none 0 0) ∧ ((((W.setCell ⟨w.heap.size + 1 + 1, 0, none⟩ v0).setCell ⟨w.heap.size + 1 + 1, 1, none⟩ v1).setCell ⟨w.heap.size + 1 + 1, 2, none⟩ v2).setCell ⟨w.heap.size + 1 + 1, 3, none⟩ v3).cell? ⟨b7, 2, none⟩ = some (.slice none 0 0) ∧ ((((W.setCell ⟨w.heap.size + 1 + 1, 0, none⟩ v0).setCell ⟨w.heap.size + 1 + 1, 1, none⟩ v1).setCell ⟨w.heap.size + 1 + 1, 2, none⟩ v2).setCell ⟨w.heap.size + 1 + 1, 3, none⟩ v3).cell? ⟨b7, 3, none⟩ = some (.slice none 0 0) ∧ ((((W.setCell ⟨w.heap.size + 1 + 1, 0, none⟩ v0).setCell ⟨w.heap.size + 1 + 1, 1, none⟩ v1).setCell ⟨w.heap.size + 1 + 1, 2, none⟩ v2).setCell ⟨w.heap.size + 1 + 1, 3, none⟩ v3).cell? ⟨w.heap.size + 1, 0, none⟩ = some (.string x.iss) ∧ ((((W.setCell ⟨w.heap.size + 1 + 1, 0, none⟩ v0).setCell ⟨w.heap.size + 1 + 1, 1, none⟩ v1).setCell ⟨w.heap.size + 1 + 1, 2, none⟩ v2).setCell ⟨w.heap.size + 1 + 1, 3, none⟩ v3).cell? ⟨w.heap.size + 1, 1, none⟩ = some (.string x.sch) ∧ ((((W.setCell ⟨w.heap.size + 1 + 1, 0, none⟩ v0).setCell ⟨w.heap.size + 1 + 1, 1, none⟩ v1).setCell ⟨w.heap.size + 1 + 1, 2, none⟩ v2).setCell ⟨w.heap.size + 1 + 1, 3, none⟩ v3).cell? ⟨w.heap.size + 1, 2, none⟩ = some (.int .i64 x.ver) ∧ ((((W.setCell ⟨w.heap.size + 1 + 1, 0, none⟩ v0).setCell ⟨w.heap.size + 1 + 1, 1, none⟩ v1).setCell ⟨w.heap.size + 1 + 1, 2, none⟩ v2).setCell ⟨w.heap.size + 1 + 1, 3, none⟩ v3).cell? ⟨w.heap.size + 1, 3, none⟩ = some (.slice A n c) ∧ ((((W.setCell ⟨w.heap.size + 1 + 1, 0, none⟩ v0).setCell ⟨w.heap.size + 1 + 1, 1, none⟩ v1).setCell ⟨w.heap.size + 1 + 1, 2, none⟩ v2).setCell ⟨w.heap.size + 1 + 1, 3, none⟩ v3).cell? ⟨w.heap.size + 1, 4, none⟩ = some (.string x.a) ∧ ((((W.setCell ⟨w.heap.size + 1 + 1, 0, none⟩ v0).setCell ⟨w.heap.size + 1 + 1, 1, none⟩ v1).setCell ⟨w.heap.size + 1 + 1, 2, none⟩ v2).setCell ⟨w.heap.size + 1 + 1, 3, none⟩ v3).cell? ⟨w.heap.size + 1, 5, none⟩ = some (.string x.e) ∧ ((((W.setCell ⟨w.heap.size + 1 + 1, 0, none⟩ v0).setCell ⟨w.heap.size + 1 + 1, 1, none⟩ v1).setCell ⟨w.heap.size + 1 + 1, 2, none⟩ v2).setCell ⟨w.heap.size + 1 + 1, 3, none⟩ v3).cell? ⟨w.heap.size + 1, 6, none⟩ = some (.string x.v) ∧ ((((W.setCell ⟨w.heap.size + 1 + 1, 0, none⟩ v0).setCell ⟨w.heap.size + 1 + 1, 1, none⟩ v1).setCell ⟨w.heap.size + 1 + 1, 2, none⟩ v2).setCell ⟨w.heap.size + 1 + 1, 3, none⟩ v3).cell? ⟨w.heap.size + 1, 7, none⟩ = some (.int .i64 x.ep) ∧ ((((W.setCell ⟨w.heap.size + 1 + 1, 0, none⟩ v0).setCell ⟨w.heap.size + 1 + 1, 1, none⟩ v1).setCell ⟨w.heap.size + 1 + 1, 2, none⟩ v2).setCell ⟨w.heap.size + 1 + 1, 3, none⟩ v3).cell? ⟨w.heap.size + 1, 8, none⟩ = some (.string x.wit)) := Lib.hid (fun L W h v0 v1 v2 v3 => by
    obtain ⟨e0, e1, e2, e3, e4, e5, e6, e7, e8, e9, e10, e11, e12⟩ := HCC.out L W h
    have hlo := (HPA.out W h.p).lo
    have hne : ∀ (V : World) (i : Nat) (u : Value) (p : Addr), p.block ≠ w.heap.size + 1 + 1 → (V.setCell ⟨w.heap.size + 1 + 1, i, none⟩ u).cell? p = V.cell? p := fun V i u p hp => World.cell?_setCell_other _ _ _ _ (fun e => by have := congrArg Addr.block e; simp at this; omega)
    have key : ∀ p : Addr, p.block ≠ w.heap.size + 1 + 1 → ((((W.setCell ⟨w.heap.size + 1 + 1, 0, none⟩ v0).setCell ⟨w.heap.size + 1 + 1, 1, none⟩ v1).setCell ⟨w.heap.size + 1 + 1, 2, none⟩ v2).setCell ⟨w.heap.size + 1 + 1, 3, none⟩ v3).cell? p = W.cell? p := fun p hp => by rw [hne _ _ _ _ hp, hne _ _ _ _ hp, hne _ _ _ _ hp, hne _ _ _ _ hp]
    exact ⟨(key ⟨b7, 0, none⟩ (by show b7 ≠ _; omega)).trans e0, (key ⟨b7, 1, none⟩ (by show b7 ≠ _; omega)).trans e1, (key ⟨b7, 2, none⟩ (by show b7 ≠ _; omega)).trans e2, (key ⟨b7, 3, none⟩ (by show b7 ≠ _; omega)).trans e3, (key ⟨w.heap.size + 1, 0, none⟩ (by show w.heap.size + 1 ≠ _; omega)).trans e4, (key ⟨w.heap.size + 1, 1, none⟩ (by show w.heap.size + 1 ≠ _; omega)).trans e5, (key ⟨w.heap.size + 1, 2, none⟩ (by show w.heap.size + 1 ≠ _; omega)).trans e6, (key ⟨w.heap.size + 1, 3, none⟩ (by show w.heap.size + 1 ≠ _; omega)).trans e7, (key ⟨w.heap.size + 1, 4, none⟩ (by show w.heap.size + 1 ≠ _; omega)).trans e8, (key ⟨w.heap.size + 1, 5, none⟩ (by show w.heap.size + 1 ≠ _; omega)).trans e9, (key ⟨w.heap.size + 1, 6, none⟩ (by show w.heap.size + 1 ≠ _; omega)).trans e10, (key ⟨w.heap.size + 1, 7, none⟩ (by show w.heap.size + 1 ≠ _; omega)).trans e11, (key ⟨w.heap.size + 1, 8, none⟩ (by show w.heap.size + 1 ≠ _; omega)).trans e12⟩)
  have HCH := Lib.hid (fun L W (h : RwK P (b7 + 1) L W) (A2 : Option Addr) (c2 : Nat) (m2 : (A2, heldL x) ∈ L) => wal_changed_e ⟨#[]⟩ none none none 0 0 0 0 0 0 ⟨#[104, 101, 108, 100]⟩ (some ⟨W.heap.size, 0, none⟩) 2 2 z (W.alloc (.cells #[.int .i64 1, .string ⟨#[]⟩, .string nc, .slice none 0 0, .int .i64 2, .string ⟨#[]⟩, .string ⟨#[]⟩, .slice A2 9 c2] 63)) hz)
  unfold ZeroErr at HCH
  obtain ⟨k0, k1, k2, k3, k4, k5, k6, k7, k8, k9, k10, k11, k12⟩ := HCC.out _ _ H0.out
  go_region_held3 (fun w' => w'.cell? ⟨b7, 0, none⟩ = some (.string ⟨#[]⟩) ∧ w'.cell? ⟨b7, 1, none⟩ = some (.slice none 0 0) ∧ w'.cell? ⟨b7, 2, none⟩ = some (.slice none 0 0) ∧ w'.cell? ⟨b7, 3, none⟩ = some (.slice none 0 0) ∧ w'.cell? ⟨w.heap.size + 1, 0, none⟩ = some (.string x.iss) ∧ w'.cell? ⟨w.heap.size + 1, 1, none⟩ = some (.string x.sch) ∧ w'.cell? ⟨w.heap.size + 1, 2, none⟩ = some (.int .i64 x.ver) ∧ w'.cell? ⟨w.heap.size + 1, 3, none⟩ = some (.slice A n c) ∧ w'.cell? ⟨w.heap.size + 1, 4, none⟩ = some (.string x.a) ∧ w'.cell? ⟨w.heap.size + 1, 5, none⟩ = some (.string x.e) ∧ w'.cell? ⟨w.heap.size + 1, 6, none⟩ = some (.string x.v) ∧ w'.cell? ⟨w.heap.size + 1, 7, none⟩ = some (.int .i64 x.ep) ∧ w'.cell? ⟨w.heap.size + 1, 8, none⟩ = some (.string x.wit)) (first | exact HCC.out _ _ H9.out | exact HCS.out _ _ H9.out _ _ _ _ | exact HCC.out _ _ H0.out | exact HCC.out _ _ (H0.out.next HPN.out (Below.refl _ _).drew) | exact HCC.out _ _ (H0.out.next HPN.out ((Below.refl _ _).alloc (Nat.le_refl _) _)) | exact HCC.out _ _ ((H0.out.next HPN.out (Below.refl _ _).drew).next HPN.out ((Below.refl _ _).alloc (Nat.le_refl _) _)) | go_keep) (first
    | (go_at_call 78; (with_reducible refine (HWH.out _).mono ?_); rintro e w1 ⟨rfl, hb1⟩; have n1' := (by first | exact H0.out.next HPN.out hb1 | exact (H0.out.next HPN.out (Below.refl _ _).drew).next HPN.out hb1 : RwK P (b7 + 1) _ w1); replace H0 := Lib.hid n1'; clear n1')
    | (go_at_call 79; (first | (with_reducible refine (HHI.out _ (HPA.out _ H0.out.p).bx.bel).mono ?_) | (with_reducible refine (HHI.out _ (HPA.out _ (H0.out.next HPN.out (Below.refl _ _).drew).p).bx.bel).mono ?_)); rintro e w1 ⟨A6, c6, rfl, hsl1, hb1⟩; have n1' := (by first | exact H0.out.add HPN.out hsl1 hb1 | exact (H0.out.next HPN.out (Below.refl _ _).drew).add HPN.out hsl1 hb1 : RwK P (b7 + 1) _ w1); replace H0 := Lib.hid n1'; clear n1')
    | (go_at_call 53; (first | (with_reducible refine (HCH.out _ _ H0.out A6 c6 (by simp)).mono ?_) | (with_reducible refine (HCH.out _ _ (H0.out.next HPN.out (Below.refl _ _).drew) A6 c6 (by simp)).mono ?_)); rintro e w9 ⟨rfl, hb9⟩; have n9 := (by first | exact (H0.out.next HPN.out ((Below.refl _ _).alloc (Nat.le_refl _) _)).next HPN.out hb9 | exact ((H0.out.next HPN.out (Below.refl _ _).drew).next HPN.out ((Below.refl _ _).alloc (Nat.le_refl _) _)).next HPN.out hb9 : RwK P (b7 + 1) _ w9); obtain ⟨⟨r0, r1, r2, r3⟩, g0, g1, g2, g3⟩ := (HPA.out _ n9.p).bx.rc; have H9 := Lib.hid n9; clear n9 hb9))
  all_goals
    go_wp2_with fail
    refine bodyPost_ret (v := .tuple #[.agg #[.string ⟨#[]⟩, .slice none 0 0, .slice none 0 0, .slice none 0 0], .string ⟨#[]⟩, .int .i64 z]) (by simp [results, Tryz.results44, go_sem, r0, r1, r2, r3]) rfl ?_
    exact ⟨rfl, (HPA.out _ H9.out.p).bx.zero _ _ _ _⟩
/-- Store where all goes well. -/
theorem wal_Store_good (sec : ByteArray) (qs : List Az) (hs : List Hz) (us : List Uz) (Aa Ah Au : Option Addr) (na ca nh ch nu cu : Nat) (nc : ByteArray) (x : Hz) (A : Option Addr) (n c : Nat) (S : Nat → Prop) (w : World) (hq : qs.length = na) (hn : hs.length = nh) (hu : us.length = nu) (ho : WalOk qs hs us) (hv : validW sec qs hs us = true) (hc : (numsH x).all valid = true) (hnx : x.att.length = n) (hmn : n ≤ 1000) (hnl : (numsH x).length ≤ 100000) (hxv : -9223372036854775808 ≤ x.ver ∧ x.ver ≤ 9223372036854775807) (hxe : -9223372036854775808 ≤ x.ep ∧ x.ep ≤ 9223372036854775807) (hrow : RowC w S A n (cellsN x.att)) (h : WalM w S qs hs us Aa Ah Au) (hS : ∀ g, S g → g < w.heap.size) (qs' : List Az) (hs' : List Hz) (hle : (encOne (2, ⟨#[]⟩, ⟨#[]⟩, .cons 1 ⟨#[]⟩ ⟨#[104, 101, 108, 100]⟩ .nil (heldI nc x))).length ≤ 200000000) (hok : (encS (2, ⟨#[]⟩, ⟨#[]⟩, .cons 1 ⟨#[]⟩ ⟨#[104, 101, 108, 100]⟩ .nil (heldI nc x))).2 = 0) (hren : ∀ W, Below w.heap.size w W → Calls Tryz.prog 63 #[.agg #[.string sec, .slice Aa na ca, .slice Ah nh ch, .slice Au nu cu], .string nc, valH x A n c] W (ChGot W sec qs' hs' us)) :
    Calls Tryz.prog 44 #[.agg #[.string sec, .slice Aa na ca, .slice Ah nh ch, .slice Au nu cu], .string nc, valH x A n c] w (ChgGot w sec qs' hs' us (encS (entOf ⟨#[104, 101, 108, 100]⟩ (heldI nc x))).1) := by
  have HV := Lib.hid (fun W (hb : Below w.heap.size w W) => wal_valid sec qs hs us Aa Ah Au na ca nh ch nu cu S W hq hn hu (by have := ho.na; omega) (by have := ho.nh; omega) (by have := ho.nu; omega) ho.nonce ho.att ho.scope (h.keep (fun q hq => hb.cell (hS _ hq))) (fun g hg => Nat.lt_of_lt_of_le (hS g hg) hb.size))
  rw [hv] at HV
  have HNM := Lib.hid (fun W (hb : Below w.heap.size w W) => wal_numbers x A n c S W hnx (by omega) (hrow.keep (fun q hq => hb.cell (hS _ hq))) (fun g hg => Nat.lt_of_lt_of_le (hS g hg) hb.size))
  have HHI := Lib.hid (fun W (hb : Below w.heap.size w W) => wal_heldItem x A n c S W hnx hmn hxv hxe (hrow.keep (fun q hq => hb.cell (hS _ hq))) (fun g hg => Nat.lt_of_lt_of_le (hS g hg) hb.size))
  have HREN := Lib.hid hren
  unfold ItOut at HHI
  dsimp only at HHI
  have hl9 : (heldL x).len = 9 := rfl
  rw [hl9] at HHI
  unfold valH at HNM HHI HREN ⊢
  unfold ChGot at HREN
  have HWH := Lib.hid (fun W => enc_Text nc W)
  have HCAN := Lib.hid (fun A' n' c' W (hn' : n' = (numsH x).length) (hs : SLs W W.heap.size A' (numsH x)) => wal_canonical (numsH x) A' n' c' W.heap.size W hn'.symm (by omega) hs)
  rw [hc] at HCAN
  have HB0 := Lib.hid (BxB.start (w := w) (sec := sec) (Aa := Aa) (na := na) (ca := ca) (Ah := Ah) (nh := nh) (ch := ch) (Au := Au) (nu := nu) (cu := cu) (cs := #[.string x.iss, .string x.sch, .int .i64 x.ver, .slice A n c, .string x.a, .string x.e, .string x.v, .int .i64 x.ep, .string x.wit]) (T := 47))
  have HAC : Hid (∀ W, BxB w sec Aa na ca Ah nh ch Au nu cu #[.string x.iss, .string x.sch, .int .i64 x.ver, .slice A n c, .string x.a, .string x.e, .string x.v, .int .i64 x.ep, .string x.wit] 47 W → W.cell? ⟨w.heap.size + 1, 0, none⟩ = some (.string x.iss) ∧ W.cell? ⟨w.heap.size + 1, 1, none⟩ = some (.string x.sch) ∧ W.cell? ⟨w.heap.size + 1, 2, none⟩ = some (.int .i64 x.ver) ∧ W.cell? ⟨w.heap.size + 1, 3, none⟩ = some (.slice A n c) ∧ W.cell? ⟨w.heap.size + 1, 4, none⟩ = some (.string x.a) ∧ W.cell? ⟨w.heap.size + 1, 5, none⟩ = some (.string x.e) ∧ W.cell? ⟨w.heap.size + 1, 6, none⟩ = some (.string x.v) ∧ W.cell? ⟨w.heap.size + 1, 7, none⟩ = some (.int .i64 x.ep) ∧ W.cell? ⟨w.heap.size + 1, 8, none⟩ = some (.string x.wit)) := Lib.hid (fun W h => ⟨cell_of_row _ _ 0 _ _ _ h.arg, cell_of_row _ _ 1 _ _ _ h.arg, cell_of_row _ _ 2 _ _ _ h.arg, cell_of_row _ _ 3 _ _ _ h.arg, cell_of_row _ _ 4 _ _ _ h.arg, cell_of_row _ _ 5 _ _ _ h.arg, cell_of_row _ _ 6 _ _ _ h.arg, cell_of_row _ _ 7 _ _ _ h.arg, cell_of_row _ _ 8 _ _ _ h.arg⟩)
  have HLE := Lib.hid hle
  have HOK := Lib.hid hok
  have HSZ : Hid ((heldI nc x).size ≤ 10000) := Lib.hid (by unfold heldI heldL intIt; simp only [Its.size, natsI_size]; omega)
  clear h hS ho hq hn hu hv hc hrow hnl hren hle hok
  go_enter Tryz.func44, Tryz.ntmps44
  go_upto_region 3 with (first
    | (go_at_call 17; (with_reducible refine (HV.out _ HB0.out.bel).mono ?_); rintro e w1 ⟨rfl, hb1⟩; have HB1 := Lib.hid (HB0.out.next hb1); obtain ⟨q0, q1, q2, q3, q4, q5, q6, q7, q8⟩ := HAC.out _ HB1.out; clear hb1)
    | (go_at_call 56; (with_reducible refine (HNM.out _ HB1.out.bel).mono ?_); rintro e w2 ⟨A', n', c', rfl, hn', hs', hb2⟩; have HB2 := Lib.hid (HB1.out.next hb2); have HC2 := Lib.hid (HCAN.out A' n' c' w2 hn' hs'); clear hb2 hn' hs')
    | (go_at_call 55; (with_reducible refine HC2.out.mono ?_); rintro e w3 ⟨rfl, rfl⟩))
  clear q0 q1 q2 q3 q4 q5 q6 q7 q8 HC2 HB1 HB0
  obtain ⟨q0, q1, q2, q3, q4, q5, q6, q7, q8⟩ := HAC.out _ HB2.out
  obtain ⟨⟨x0, x1, x2, x3⟩, -⟩ := HB2.out.bc
  go_upto_region 4 with (go_at_call 63; (with_reducible refine (HREN.out _ HB2.out.bel).mono ?_); rintro e w3 ⟨A1, n1, c1, A2, n2, c2, A3, n3, c3, rfl, l1, l2, l3, hm3, hb3⟩; have HD := Lib.hid (AqD.start (sec' := sec) (n1 := n1) (c1 := c1) (n2 := n2) (c2 := c2) (n3 := n3) (c3 := c3) HB2.out hb3 hm3); have HL := Lib.hid (And.intro l1 (And.intro l2 l3)); clear hb3 hm3 l1 l2 l3)
  obtain ⟨w4, hw4⟩ : ∃ w4, w3.alloc (.cells #[.string sec, .slice A1 n1 c1, .slice A2 n2 c2, .slice A3 n3 c3] 27) = w4 := ⟨_, rfl⟩
  rw [hw4] at HD ⊢
  clear hw4 q0 q1 q2 q3 q4 q5 q6 q7 q8 x0 x1 x2 x3
  obtain ⟨b7, hb7⟩ : ∃ b, w3.heap.size = b := ⟨_, rfl⟩
  rw [hb7] at HD
  rw [hb7]
  clear hb7 HB2
  obtain ⟨P, hP⟩ : ∃ P : World → Prop, P = (fun W => AqD w sec Aa na ca Ah nh ch Au nu cu #[.string x.iss, .string x.sch, .int .i64 x.ver, .slice A n c, .string x.a, .string x.e, .string x.v, .int .i64 x.ep, .string x.wit] 47 sec qs' hs' us A1 n1 c1 A2 n2 c2 A3 n3 c3 b7 W) := ⟨_, rfl⟩
  have HPN : Hid (∀ W w', P W → Below W.heap.size W w' → P w') := Lib.hid (by rw [hP]; exact fun W w' h hb => h.next hb)
  have HPA : Hid (∀ W, P W → AqD w sec Aa na ca Ah nh ch Au nu cu #[.string x.iss, .string x.sch, .int .i64 x.ver, .slice A n c, .string x.a, .string x.e, .string x.v, .int .i64 x.ep, .string x.wit] 47 sec qs' hs' us A1 n1 c1 A2 n2 c2 A3 n3 c3 b7 W) := Lib.hid (by rw [hP]; exact fun W h => h)
  have H0 : Hid (RwK P (b7 + 1) [] w4) := Lib.hid ⟨by rw [hP]; exact HD.out, HD.out.hi, fun q hq => absurd hq (by simp)⟩
  clear hP
  have HCC : Hid (∀ L W, RwK P (b7 + 1) L W → W.cell? ⟨b7, 0, none⟩ = some (.string sec) ∧ W.cell? ⟨b7, 1, none⟩ = some (.slice A1 n1 c1) ∧ W.cell? ⟨b7, 2, none⟩ = some (.slice A2 n2 c2) ∧ W.cell? ⟨b7, 3, none⟩ = some (.slice A3 n3 c3) ∧ W.cell? ⟨w.heap.size + 1, 0, none⟩ = some (.string x.iss) ∧ W.cell? ⟨w.heap.size + 1, 1, none⟩ = some (.string x.sch) ∧ W.cell? ⟨w.heap.size + 1, 2, none⟩ = some (.int .i64 x.ver) ∧ W.cell? ⟨w.heap.size + 1, 3, none⟩ = some (.slice A n c) ∧ W.cell? ⟨w.heap.size + 1, 4, none⟩ = some (.string x.a) ∧ W.cell? ⟨w.heap.size + 1, 5, none⟩ = some (.string x.e) ∧ W.cell? ⟨w.heap.size + 1, 6, none⟩ = some (.string x.v) ∧ W.cell? ⟨w.heap.size + 1, 7, none⟩ = some (.int .i64 x.ep) ∧ W.cell? ⟨w.heap.size + 1, 8, none⟩ = some (.string x.wit)) := Lib.hid (fun L W h => by
    have ha := HPA.out W h.p
    obtain ⟨e0, e1, e2, e3⟩ := ha.wc
    exact ⟨e0, e1, e2, e3, HAC.out W ha.bx⟩)
  have HCS : Hid (∀ L W, RwK P (b7 + 1) L W → ∀ v0 v1 v2 v3, ((((W.setCell ⟨w.heap.size + 1 + 1, 0, none⟩ v0).setCell ⟨w.heap.size + 1 + 1, 1, none⟩ v1).setCell ⟨w.heap.size + 1 + 1, 2, none⟩ v2).setCell ⟨w.heap.size + 1 + 1, 3, none⟩ v3).cell? ⟨b7, 0, none⟩ = some (.string sec) ∧ ((((W.setCell ⟨w.heap.size + 1 + 1, 0, none⟩ v0).setCell ⟨w.heap.size + 1 + 1, 1, none⟩ v1).setCell ⟨w.heap.size + 1 + 1, 2, none⟩ v2).setCell ⟨w.heap.size + 1 + 1, 3, none⟩ v3).cell? ⟨b7, 1, none⟩ = some (.slice A1 n1 c1) ∧ ((((W.setCell ⟨w.heap.size + 1 + 1, 0, none⟩ v0).setCell ⟨w.heap.size + 1 + 1, 1, none⟩ v1).setCell ⟨w.heap.size + 1 + 1, 2, none⟩ v2).setCell ⟨w.heap.size + 1 + 1, 3, none⟩ v3).cell? ⟨b7, 2, none⟩ = some (.slice A2 n2 c2) ∧ ((((W.setCell ⟨w.heap.size + 1 + 1, 0, none⟩ v0).setCell ⟨w.heap.size + 1 + 1, 1, none⟩ v1).setCell ⟨w.heap.size + 1 + 1, 2, none⟩ v2).setCell ⟨w.heap.size + 1 + 1, 3, none⟩ v3).cell? ⟨b7, 3, none⟩ = some (.slice A3 n3 c3) ∧ ((((W.setCell ⟨w.heap.size + 1 + 1, 0, none⟩ v0).setCell ⟨w.heap.size + 1 + 1, 1, none⟩ v1).setCell ⟨w.heap.size + 1 + 1, 2, none⟩ v2).setCell ⟨w.heap.size + 1 + 1, 3, none⟩ v3).cell? ⟨w.heap.size + 1, 0, none⟩ = some (.string x.iss) ∧ ((((W.setCell ⟨w.heap.size + 1 + 1, 0, none⟩ v0).setCell ⟨w.heap.size + 1 + 1, 1, none⟩ v1).setCell ⟨w.heap.size + 1 + 1, 2, none⟩ v2).setCell ⟨w.heap.size + 1 + 1, 3, none⟩ v3).cell? ⟨w.heap.size + 1, 1, none⟩ = some (.string x.sch) ∧ ((((W.setCell ⟨w.heap.size + 1 + 1, 0, none⟩ v0).setCell ⟨w.heap.size + 1 + 1, 1, none⟩ v1).setCell ⟨w.heap.size + 1 + 1, 2, none⟩ v2).setCell ⟨w.heap.size + 1 + 1, 3, none⟩ v3).cell? ⟨w.heap.size + 1, 2, none⟩ = some (.int .i64 x.ver) ∧ ((((W.setCell ⟨w.heap.size + 1 + 1, 0, none⟩ v0).setCell ⟨w.heap.size + 1 + 1, 1, none⟩ v1).setCell ⟨w.heap.size + 1 + 1, 2, none⟩ v2).setCell ⟨w.heap.size + 1 + 1, 3, none⟩ v3).cell? ⟨w.heap.size + 1, 3, none⟩ = some (.slice A n c) ∧ ((((W.setCell ⟨w.heap.size + 1 + 1, 0, none⟩ v0).setCell ⟨w.heap.size + 1 + 1, 1, none⟩ v1).setCell ⟨w.heap.size + 1 + 1, 2, none⟩ v2).setCell ⟨w.heap.size + 1 + 1, 3, none⟩ v3).cell? ⟨w.heap.size + 1, 4, none⟩ = some (.string x.a) ∧ ((((W.setCell ⟨w.heap.size + 1 + 1, 0, none⟩ v0).setCell ⟨w.heap.size + 1 + 1, 1, none⟩ v1).setCell ⟨w.heap.size + 1 + 1, 2, none⟩ v2).setCell ⟨w.heap.size + 1 + 1, 3, none⟩ v3).cell? ⟨w.heap.size + 1, 5, none⟩ = some (.string x.e) ∧ ((((W.setCell ⟨w.heap.size + 1 + 1, 0, none⟩ v0).setCell ⟨w.heap.size + 1 + 1, 1, none⟩ v1).setCell ⟨w.heap.size + 1 + 1, 2, none⟩ v2).setCell ⟨w.heap.size + 1 + 1, 3, none⟩ v3).cell? ⟨w.heap.size + 1, 6, none⟩ = some (.string x.v) ∧ ((((W.setCell ⟨w.heap.size + 1 + 1, 0, none⟩ v0).setCell ⟨w.heap.size + 1 + 1, 1, none⟩ v1).setCell ⟨w.heap.size + 1 + 1, 2, none⟩ v2).setCell ⟨w.heap.size + 1 + 1, 3, none⟩ v3).cell? ⟨w.heap.size + 1, 7, none⟩ = some (.int .i64 x.ep) ∧ ((((W.setCell ⟨w.heap.size + 1 + 1, 0, none⟩ v0).setCell ⟨w.heap.size + 1 + 1, 1, none⟩ v1).setCell ⟨w.heap.size + 1 + 1, 2, none⟩ v2).setCell ⟨w.heap.size + 1 + 1, 3, none⟩ v3).cell? ⟨w.heap.size + 1, 8, none⟩ = some (.string x.wit)) := Lib.hid (fun L W h v0 v1 v2 v3 => by
    obtain ⟨e0, e1, e2, e3, e4, e5, e6, e7, e8, e9, e10, e11, e12⟩ := HCC.out L W h
    have hlo := (HPA.out W h.p).lo
    have hne : ∀ (V : World) (i : Nat) (u : Value) (p : Addr), p.block ≠ w.heap.size + 1 + 1 → (V.setCell ⟨w.heap.size + 1 + 1, i, none⟩ u).cell? p = V.cell? p := fun V i u p hp => World.cell?_setCell_other _ _ _ _ (fun e => by have := congrArg Addr.block e; simp at this; omega)
    have key : ∀ p : Addr, p.block ≠ w.heap.size + 1 + 1 → ((((W.setCell ⟨w.heap.size + 1 + 1, 0, none⟩ v0).setCell ⟨w.heap.size + 1 + 1, 1, none⟩ v1).setCell ⟨w.heap.size + 1 + 1, 2, none⟩ v2).setCell ⟨w.heap.size + 1 + 1, 3, none⟩ v3).cell? p = W.cell? p := fun p hp => by rw [hne _ _ _ _ hp, hne _ _ _ _ hp, hne _ _ _ _ hp, hne _ _ _ _ hp]
    exact ⟨(key ⟨b7, 0, none⟩ (by show b7 ≠ _; omega)).trans e0, (key ⟨b7, 1, none⟩ (by show b7 ≠ _; omega)).trans e1, (key ⟨b7, 2, none⟩ (by show b7 ≠ _; omega)).trans e2, (key ⟨b7, 3, none⟩ (by show b7 ≠ _; omega)).trans e3, (key ⟨w.heap.size + 1, 0, none⟩ (by show w.heap.size + 1 ≠ _; omega)).trans e4, (key ⟨w.heap.size + 1, 1, none⟩ (by show w.heap.size + 1 ≠ _; omega)).trans e5, (key ⟨w.heap.size + 1, 2, none⟩ (by show w.heap.size + 1 ≠ _; omega)).trans e6, (key ⟨w.heap.size + 1, 3, none⟩ (by show w.heap.size + 1 ≠ _; omega)).trans e7, (key ⟨w.heap.size + 1, 4, none⟩ (by show w.heap.size + 1 ≠ _; omega)).trans e8, (key ⟨w.heap.size + 1, 5, none⟩ (by show w.heap.size + 1 ≠ _; omega)).trans e9, (key ⟨w.heap.size + 1, 6, none⟩ (by show w.heap.size + 1 ≠ _; omega)).trans e10, (key ⟨w.heap.size + 1, 7, none⟩ (by show w.heap.size + 1 ≠ _; omega)).trans e11, (key ⟨w.heap.size + 1, 8, none⟩ (by show w.heap.size + 1 ≠ _; omega)).trans e12⟩)
  have HCH := Lib.hid (fun L W (h : RwK P (b7 + 1) L W) (B2 : Option Addr) (d2 : Nat) (m2 : (B2, heldL x) ∈ L) => wal_changed sec A1 A2 A3 n1 c1 n2 c2 n3 c3 ⟨#[104, 101, 108, 100]⟩ (heldI nc x) (some ⟨W.heap.size, 0, none⟩) 2 _ (W.alloc (.cells #[.int .i64 1, .string ⟨#[]⟩, .string nc, .slice none 0 0, .int .i64 2, .string ⟨#[]⟩, .string ⟨#[]⟩, .slice B2 9 d2] 63)) HSZ.out (pair_row (l1 := .nil) (A1 := none) (m1 := 0) (c1 := 0) SlI.nil_ (h.mem _ m2) (fun g hg => hg.2) rfl rfl) (fun g hg => by { rcases hg with hg | hg; { have := hg.2; simp; omega }; { rw [hg]; simp } }) HLE.out HOK.out)
  have hl2 : (heldI nc x).len = 2 := rfl
  rw [hl2] at HCH
  obtain ⟨k0, k1, k2, k3, k4, k5, k6, k7, k8, k9, k10, k11, k12⟩ := HCC.out _ _ H0.out
  go_region_held3 (fun w' => w'.cell? ⟨b7, 0, none⟩ = some (.string sec) ∧ w'.cell? ⟨b7, 1, none⟩ = some (.slice A1 n1 c1) ∧ w'.cell? ⟨b7, 2, none⟩ = some (.slice A2 n2 c2) ∧ w'.cell? ⟨b7, 3, none⟩ = some (.slice A3 n3 c3) ∧ w'.cell? ⟨w.heap.size + 1, 0, none⟩ = some (.string x.iss) ∧ w'.cell? ⟨w.heap.size + 1, 1, none⟩ = some (.string x.sch) ∧ w'.cell? ⟨w.heap.size + 1, 2, none⟩ = some (.int .i64 x.ver) ∧ w'.cell? ⟨w.heap.size + 1, 3, none⟩ = some (.slice A n c) ∧ w'.cell? ⟨w.heap.size + 1, 4, none⟩ = some (.string x.a) ∧ w'.cell? ⟨w.heap.size + 1, 5, none⟩ = some (.string x.e) ∧ w'.cell? ⟨w.heap.size + 1, 6, none⟩ = some (.string x.v) ∧ w'.cell? ⟨w.heap.size + 1, 7, none⟩ = some (.int .i64 x.ep) ∧ w'.cell? ⟨w.heap.size + 1, 8, none⟩ = some (.string x.wit)) (first | exact HCC.out _ _ H9.out | exact HCS.out _ _ H9.out _ _ _ _ | exact HCC.out _ _ H0.out | exact HCC.out _ _ (H0.out.next HPN.out (Below.refl _ _).drew) | exact HCC.out _ _ (H0.out.next HPN.out ((Below.refl _ _).alloc (Nat.le_refl _) _)) | exact HCC.out _ _ ((H0.out.next HPN.out (Below.refl _ _).drew).next HPN.out ((Below.refl _ _).alloc (Nat.le_refl _) _)) | go_keep) (first
    | (go_at_call 78; (with_reducible refine (HWH.out _).mono ?_); rintro e w1 ⟨rfl, hb1⟩; have n1' := (by first | exact H0.out.next HPN.out hb1 | exact (H0.out.next HPN.out (Below.refl _ _).drew).next HPN.out hb1 : RwK P (b7 + 1) _ w1); replace H0 := Lib.hid n1'; clear n1')
    | (go_at_call 79; (first | (with_reducible refine (HHI.out _ (HPA.out _ H0.out.p).bx.bel).mono ?_) | (with_reducible refine (HHI.out _ (HPA.out _ (H0.out.next HPN.out (Below.refl _ _).drew).p).bx.bel).mono ?_)); rintro e w1 ⟨A6, c6, rfl, hsl1, hb1⟩; have n1' := (by first | exact H0.out.add HPN.out hsl1 hb1 | exact (H0.out.next HPN.out (Below.refl _ _).drew).add HPN.out hsl1 hb1 : RwK P (b7 + 1) _ w1); replace H0 := Lib.hid n1'; clear n1')
    | (go_at_call 53; (first | (with_reducible refine (HCH.out _ _ H0.out A6 c6 (by simp)).mono ?_) | (with_reducible refine (HCH.out _ _ (H0.out.next HPN.out (Below.refl _ _).drew) A6 c6 (by simp)).mono ?_)); rintro e w9 ⟨rfl, hb9⟩; have n9 := (by first | exact (H0.out.next HPN.out ((Below.refl _ _).alloc (Nat.le_refl _) _)).next HPN.out hb9 | exact ((H0.out.next HPN.out (Below.refl _ _).drew).next HPN.out ((Below.refl _ _).alloc (Nat.le_refl _) _)).next HPN.out hb9 : RwK P (b7 + 1) _ w9); obtain ⟨⟨r0, r1, r2, r3⟩, g0, g1, g2, g3⟩ := (HPA.out _ n9.p).bx.rc; have H9 := Lib.hid n9; clear n9 hb9))
  all_goals
    go_wp2_with fail
    have HF := (HPA.out _ H9.out.p).fin (.string sec) (.slice A1 n1 c1) (.slice A2 n2 c2) (.slice A3 n3 c3)
    refine bodyPost_ret (v := .tuple #[.agg #[.string sec, .slice A1 n1 c1, .slice A2 n2 c2, .slice A3 n3 c3], .string (encS (entOf ⟨#[104, 101, 108, 100]⟩ (heldI nc x))).1, .int .i64 0]) (by simp [results, Tryz.results44, go_sem, r0, r1, r2, r3, entOf]) rfl ?_
    exact ⟨A1, n1, c1, A2, n2, c2, A3, n3, c3, rfl, HL.out.1, HL.out.2.1, HL.out.2.2, HF.1, HF.2⟩
end Go.Proofs.YtjhlddlocpkhkaaGreat
