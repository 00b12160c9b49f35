/- The reference: ask. Rows that are copied and grown in regions that draw their order. Wallet: a held credential in an own wallet is written anew. -/
import Derived.Test.YtjhlddlocpkhkaaGreatWhNi
import Derived.Test.YtjhlddlocpkhkaaGreatWhYt
import Derived.Test.YtjhlddlocpkhkaaGreatWhJ19
namespace Go.Proofs.YtjhlddlocpkhkaaGreat
open Go.RowKit
set_option maxRecDepth 100000
set_option linter.unusedVariables false
set_option maxHeartbeats 8000000
/-- What a change of the reference hands back where it goes well: it may share memory with what came in. -/
def ChS (S : Nat → Prop) (w : World) (sec : ByteArray) (qs : List Az) (hs : List Hz) (us : List Uz) (o : Ending) (w' : World) : Prop :=
  ∃ A1 n1 c1 A2 n2 c2 A3 n3 c3, o = .returned (.tuple #[.agg #[.string sec, .slice A1 n1 c1, .slice A2 n2 c2, .slice A3 n3 c3], .int .i64 0]) ∧ n1 = qs.length ∧ n2 = hs.length ∧ n3 = us.length ∧ WalM w' (fun g => S g ∨ (w.heap.size ≤ g ∧ g < w'.heap.size)) qs hs us A1 A2 A3 ∧ Below w.heap.size w w'
section
variable {w : World} {ops : Array Oper} {o : Oper} {a : Act} {K : Act → World → Prop} {Q : Exit → Act → World → Prop} {E : Prop}
/-- append of a row onto nil: a copy of the call's own. -/
theorem step_copyA (hgd : o.guard = none) (s x : Operand) (ho : o.op = .call { callee := .builtin .append, args := #[s, x], argTypes := #[23, 23] })
    (hs : a.eval s = .slice none 0 0) (A : Option Addr) (n c : Nat) (news : List Value) (hx : a.eval x = .slice A n c) (hr : Reads w w.heap.size 5 A n news) (h1 : ∀ u ∈ news, u.oneCell' = true) (hn : n ≤ 100000)
    (h : ∀ A' c' w', w'.ownsRow w.heap.size 40 5 (.slice A' n c') n news → Below w.heap.size w w' → K (a.put o.dst (.slice A' n c')) w') :
    if Region.wanted o (yielded ops a.tmps) = true then Oper.wp Tryz.prog o a w K Q else E := by
  obtain ⟨ti, hi, hz, hs1, hb1⟩ := infoE_A
  refine step_append_any w hgd s x 23 ho w.heap.size 40 ti _ 5 80 Tryz.underlying23 hi hz hs1 hb1 rfl (by decide) (.slice none 0 0) 0 [] hs (World.ownsRow_nil w _ _ _) _ A n c news hx hr h1 (by unfold maxLen; omega) (by omega) (Nat.le_refl _) ?_
  intro v' w' hown hg hv
  rw [Nat.zero_add, List.nil_append] at hown
  obtain ⟨A', c', rfl⟩ := owns_shape hown
  exact h A' c' w' hown (below_grown hg (Nat.le_refl _) (fun g hg => by cases hg))
/-- append of one new element onto a row of the call's own. -/
theorem step_addA (hgd : o.guard = none) (s x : Operand) (ho : o.op = .call { callee := .builtin .append, args := #[s, x], argTypes := #[23, 23] })
    (base : Nat) (A : Option Addr) (n c : Nat) (L : List Value) (hs : a.eval s = .slice A n c) (hown : w.ownsRow base 40 5 (.slice A n c) n L) (A' : Option Addr) (c' : Nat) (news : List Value) (hx : a.eval x = .slice A' 1 c') (hr : Reads w w.heap.size 5 A' 1 news) (h1 : ∀ u ∈ news, u.oneCell' = true) (hn : n ≤ 100000) (hb : base ≤ w.heap.size)
    (h : ∀ A' c' w', w'.ownsRow base 40 5 (.slice A' (n + 1) c') (n + 1) (L ++ news) → Below base w w' → K (a.put o.dst (.slice A' (n + 1) c')) w') :
    if Region.wanted o (yielded ops a.tmps) = true then Oper.wp Tryz.prog o a w K Q else E := by
  obtain ⟨ti, hi, hz, hs1, hb1⟩ := infoE_A
  refine step_append_any w hgd s x 23 ho base 40 ti _ 5 80 Tryz.underlying23 hi hz hs1 hb1 rfl (by decide) _ n L hs hown _ A' 1 c' news hx hr h1 (by unfold maxLen; omega) (by omega) hb ?_
  intro v' w' hown' hg hv
  obtain ⟨A', c', rfl⟩ := owns_shape hown'
  exact h A' c' w' hown' (below_grown hg hb (fun g hg' => (hown.lt g hg').1))
end
section
variable {w wx : World} {sec : ByteArray} {Aa : Option Addr} {na ca : Nat} {Ah : Option Addr} {nh ch : Nat} {Au : Option Addr} {nu cu : Nat} {cs : Array Value} {T : TypeId}
theorem BxB.alloc (h : BxB w sec Aa na ca Ah nh ch Au nu cu cs T wx) (o : Obj) : BxB w sec Aa na ca Ah nh ch Au nu cu cs T (wx.alloc o) := h.next ((Below.refl _ _).alloc (Nat.le_refl _) _)
end
/-- The wallet that is handed back: one row anew, the others as they came in. -/
theorem walM_a {w wx w' : World} {S : Nat → Prop} {qs qs' : List Az} {hs : List Hz} {us : List Uz} {Aa Ah Au A2 : Option Addr} {c2 n2 : Nat} (h : WalM w S qs hs us Aa Ah Au) (hS : ∀ g, S g → g < w.heap.size) (o : wx.ownsRow (w.heap.size + 3) 40 5 (.slice A2 n2 c2) n2 (cellsA qs')) (hn : n2 = qs'.length)
    (hb : Below w.heap.size w w') (hk : ∀ p : Addr, w.heap.size + 3 ≤ p.block → w'.cell? p = wx.cell? p) (hz : wx.heap.size ≤ w'.heap.size) : WalM w' (fun g => S g ∨ (w.heap.size ≤ g ∧ g < w'.heap.size)) qs' hs us A2 Ah Au := by
  subst hn
  have h' := (h.keep (w' := w') (fun p hp => hb.cell (hS _ hp))).mono (S' := fun g => S g ∨ (w.heap.size ≤ g ∧ g < w'.heap.size)) (fun g hg => .inl hg)
  exact ⟨RowC.mono (RowC.keep (owns_row o) (fun p hp => hk p hp.1)) (fun g hg => .inr ⟨by have := hg.1; omega, Nat.lt_of_lt_of_le hg.2 hz⟩), h'.h, h'.u⟩
theorem r56_ask_twice (sec : ByteArray) (qs : List Az) (hs : List Hz) (us : List Uz) (Aa Ah Au : Option Addr) (na ca nh ch nu cu : Nat) (i s n x b : ByteArray) (S : Nat → Prop) (w : World) (hq : qs.length = na) (hma : na < 4096) (hno : qs.any (isA n) = true) (h : WalM w S qs hs us Aa Ah Au) (hS : ∀ g, S g → g < w.heap.size) :
    Calls Tryz.prog 34 #[.agg #[.string sec, .slice Aa na ca, .slice Ah nh ch, .slice Au nu cu], .agg #[.string i, .string s, .string n, .string x, .string b]] w (ChErr w 8) := by
  have HB0 := Lib.hid (BxB.start (w := w) (sec := sec) (Aa := Aa) (na := na) (ca := ca) (Ah := Ah) (nh := nh) (ch := ch) (Au := Au) (nu := nu) (cu := cu) (cs := #[.string i, .string s, .string n, .string x, .string b]) (T := 40))
  have HM := Lib.hid (fun W (hb : Below w.heap.size w W) => (h.keep (w' := W) (fun q hq => hb.cell (hS _ hq))).a)
  have HQ := Lib.hid hq
  have HMA := Lib.hid hma
  have HNO := Lib.hid hno
  clear h hS hq hno
  go_enter Tryz.func34, Tryz.ntmps34
  go_wp2_with fail
  go_loopw [6] (fun v wr => ∃ k : Nat, k ≤ na ∧ v = .int .i64 k ∧ ((qs.take k).any (isA n)) = false ∧ BxB w sec Aa na ca Ah nh ch Au nu cu #[.string i, .string s, .string n, .string x, .string b] 40 wr) (fun v _ => na - (intOf v).toNat)
  case atStart => exact ⟨0, Nat.zero_le _, rfl, rfl, HB0.out⟩
  case round =>
    obtain ⟨k, hk, rfl, hany, hb⟩ := hrel
    have HANY := Lib.hid hany
    have HB := Lib.hid hb
    clear hany hb HB0
    obtain ⟨⟨x0, x1, x2, x3⟩, f0, f1, f2, f3⟩ := HB.out.bc
    obtain ⟨⟨r0, r1, r2, r3⟩, g0, g1, g2, g3⟩ := HB.out.rc
    have z2 := cell_of_row wr _ 2 _ _ _ HB.out.arg
    by_cases hlt : k < na
    · obtain ⟨y, hy⟩ : ∃ y, qs[k]? = some y := ⟨qs[k]'(by rw [HQ.out]; exact hlt), List.getElem?_eq_getElem _⟩
      obtain ⟨g, off, rfl, -, -⟩ := (HM.out wr HB.out.bel).at_ (x := y.2.2.2.1) (i := y.1) (s := y.2.1) (n := y.2.2.1) (b := y.2.2.2.2) (k := k) hy
      have yk := (HM.out wr HB.out.bel).nonce hy
      obtain ⟨ny, hny⟩ : ∃ ny, y.2.2.1 = ny := ⟨_, rfl⟩
      rw [hny] at yk
      have HY := Lib.hid (And.intro hy hny)
      have hil : (k : Int) < (na : Int) := by omega
      have HLT := Lib.hid hlt
      clear hy hny hlt
      cases he : (ny.toList == n.toList) with
      | true =>
        go_upto_region 4 with fail
        go_quiet (fail)
        go_wp2_with fail
        refine bodyPost_ret (v := .tuple #[.agg #[.string ⟨#[]⟩, .slice none 0 0, .slice none 0 0, .slice none 0 0], .int .i64 8]) (by simp [results, Tryz.results34, go_sem, r0, r1, r2, r3]) rfl ?_
        exact ⟨rfl, (HB.out.next (below_drewN (Below.refl _ _) _)).zero _ _ _ _⟩
      | false =>
        have HE := Lib.hid he
        go_upto_region 4 with fail
        go_quiet (fail)
        go_wp2_with fail
        go_roundw
        case rel => exact ⟨k + 1, HLT.out, by go_num, any_next HANY.out HY.out.1 (by show (y.2.2.1.toList == n.toList) = false; rw [HY.out.2]; exact HE.out), HB.out.next (below_drewN (Below.refl _ _) _)⟩
        case measure => have := HLT.out; simp only [intOf]; omega
    · exfalso
      obtain rfl : na = k := by omega
      have h1 := HANY.out
      rw [List.take_of_length_le (by rw [HQ.out]; exact Nat.le_refl _)] at h1
      exact absurd (h1.symm.trans HNO.out) (by decide)
theorem r56_ask_ok (sec : ByteArray) (qs : List Az) (hs : List Hz) (us : List Uz) (Aa Ah Au : Option Addr) (na ca nh ch nu cu : Nat) (i s n x b : ByteArray) (S : Nat → Prop) (w : World) (hq : qs.length = na) (hma : na < 4096) (hn : hs.length = nh) (hu : us.length = nu) (hno : qs.any (isA n) = false) (h : WalM w S qs hs us Aa Ah Au) (hS : ∀ g, S g → g < w.heap.size) :
    Calls Tryz.prog 34 #[.agg #[.string sec, .slice Aa na ca, .slice Ah nh ch, .slice Au nu cu], .agg #[.string i, .string s, .string n, .string x, .string b]] w (ChS S w sec (qs ++ [(i, s, n, x, b)]) hs us) := by
  have HB0 := Lib.hid (BxB.start (w := w) (sec := sec) (Aa := Aa) (na := na) (ca := ca) (Ah := Ah) (nh := nh) (ch := ch) (Au := Au) (nu := nu) (cu := cu) (cs := #[.string i, .string s, .string n, .string x, .string b]) (T := 40))
  have HM := Lib.hid (fun W (hb : Below w.heap.size w W) => (h.keep (w' := W) (fun q hq => hb.cell (hS _ hq))).a)
  have HQ := Lib.hid hq
  have HMA := Lib.hid hma
  have HNO := Lib.hid hno
  have HW := Lib.hid (And.intro h (And.intro hS (And.intro hn hu)))
  clear h hS hq hno hn hu
  go_enter Tryz.func34, Tryz.ntmps34
  go_wp2_with fail
  go_loopw [6] (fun v wr => ∃ k : Nat, k ≤ na ∧ v = .int .i64 k ∧ ((qs.take k).any (isA n)) = false ∧ BxB w sec Aa na ca Ah nh ch Au nu cu #[.string i, .string s, .string n, .string x, .string b] 40 wr) (fun v _ => na - (intOf v).toNat)
  case atStart => exact ⟨0, Nat.zero_le _, rfl, rfl, HB0.out⟩
  case round =>
    obtain ⟨k, hk, rfl, hany, hb⟩ := hrel
    have HANY := Lib.hid hany
    have HB := Lib.hid hb
    clear hany hb HB0
    obtain ⟨⟨x0, x1, x2, x3⟩, f0, f1, f2, f3⟩ := HB.out.bc
    obtain ⟨⟨r0, r1, r2, r3⟩, g0, g1, g2, g3⟩ := HB.out.rc
    have z2 := cell_of_row wr _ 2 _ _ _ HB.out.arg
    by_cases hlt : k < na
    · obtain ⟨y, hy⟩ : ∃ y, qs[k]? = some y := ⟨qs[k]'(by rw [HQ.out]; exact hlt), List.getElem?_eq_getElem _⟩
      obtain ⟨g, off, rfl, -, -⟩ := (HM.out wr HB.out.bel).at_ (x := y.2.2.2.1) (i := y.1) (s := y.2.1) (n := y.2.2.1) (b := y.2.2.2.2) (k := k) hy
      have yk := (HM.out wr HB.out.bel).nonce hy
      obtain ⟨ny, hny⟩ : ∃ ny, y.2.2.1 = ny := ⟨_, rfl⟩
      rw [hny] at yk
      have HY := Lib.hid (And.intro hy hny)
      have hil : (k : Int) < (na : Int) := by omega
      have HLT := Lib.hid hlt
      clear hy hny hlt
      cases he : (ny.toList == n.toList) with
      | true =>
        exfalso
        refine absurd ((any_found (k := na) HLT.out HY.out.1 (p := isA n) (by show (y.2.2.1.toList == n.toList) = true; rw [HY.out.2]; exact he)).symm.trans ?_) (by decide : ¬ (true = false))
        rw [List.take_of_length_le (by rw [HQ.out]; exact Nat.le_refl _)]
        exact HNO.out
      | false =>
        have HE := Lib.hid he
        go_upto_region 4 with fail
        go_quiet (fail)
        go_wp2_with fail
        go_roundw
        case rel => exact ⟨k + 1, HLT.out, by go_num, any_next HANY.out HY.out.1 (by show (y.2.2.1.toList == n.toList) = false; rw [HY.out.2]; exact HE.out), HB.out.next (below_drewN (Below.refl _ _) _)⟩
        case measure => have := HLT.out; simp only [intOf]; omega
    · obtain rfl : na = k := by omega
      have k4 : decide ((4096 : Int) ≤ (na : Int)) = false := decide_eq_false (by omega)
      have k5 : ¬ ((4096 : Int) ≤ (na : Int)) := by omega
      have HRA := Lib.hid (fun W (hb : BxB w sec Aa na ca Ah nh ch Au nu cu #[.string i, .string s, .string n, .string x, .string b] 40 W) => (RowC.reads (k := 5) (A := Aa) (n := na) (L := cellsA qs) (by have := HW.out.1.a; unfold SlA at this; rw [HQ.out] at this; exact this) (by rw [cellsA_len, HQ.out]) HW.out.2.1 hb.bel))
      have HONE := Lib.hid (cellsA_one qs)
      have HON2 : Hid (∀ u ∈ [Value.string i, .string s, .string n, .string x, .string b], u.oneCell' = true) := Lib.hid (cellsA_one [(i, s, n, x, b)])
      have HP := Lib.hid (fun (A' : Option Addr) (n' c' : Nat) W (hb : BxB w sec A' n' c' Ah nh ch Au nu cu #[.string i, .string s, .string n, .string x, .string b] 40 W) => And.intro (show ∃ v, W.cell? ⟨w.heap.size, 1, none⟩ = some v from ⟨_, hb.bc.1.2.1⟩) (And.intro hb.bc.2.2.1 (And.intro (cell_of_row W _ 0 _ _ _ hb.arg) (And.intro (cell_of_row W _ 1 _ _ _ hb.arg) (And.intro (cell_of_row W _ 2 _ _ _ hb.arg) (And.intro (cell_of_row W _ 3 _ _ _ hb.arg) (cell_of_row W _ 4 _ _ _ hb.arg)))))))
      clear z2
      obtain ⟨-, zf, z0, z1, z2, z3, z4⟩ := HP.out _ _ _ _ HB.out
      have l0 : w.heap.size < wr.heap.size := by have := HB.out.size; omega
      have l1 : w.heap.size + 1 < wr.heap.size := by have := HB.out.size; omega
      go_upto_region 9 with fail
      go_region_law (first
        | (refine step_copyA (by rfl) _ _ (by rfl) (by rfl) Aa na ca (cellsA qs) (by rfl) (HRA.out _ (by first | exact HB.out | exact HB.out.drew | exact HB.out.alloc _ | exact (HB.out.alloc _).drew | exact HB.out.drew.alloc _ | exact (HB.out.drew.alloc _).drew)) HONE.out (by omega) ?_; intro A1 c1 w1 hown1 hb1; have n1 := ((by first | exact HB.out | exact HB.out.drew | exact HB.out.alloc _ | exact (HB.out.alloc _).drew | exact HB.out.drew.alloc _ | exact (HB.out.drew.alloc _).drew) : BxB w sec Aa na ca Ah nh ch Au nu cu #[.string i, .string s, .string n, .string x, .string b] 40 _).next hb1; obtain ⟨q0, q1, q2, q3, q4, q5, q6⟩ := HP.out _ _ _ _ n1; have q7 := n1.bc.1.2.1; have l2 : w.heap.size < w1.heap.size := (by have := n1.size; omega); have l3 : w.heap.size + 1 < w1.heap.size := (by have := n1.size; omega); have HB1 := Lib.hid n1; have HO1 := Lib.hid (owns_mono hown1 (show w.heap.size + 3 ≤ _ from ((by first | exact HB.out | exact HB.out.drew | exact HB.out.alloc _ | exact (HB.out.alloc _).drew | exact HB.out.drew.alloc _ | exact (HB.out.drew.alloc _).drew) : BxB w sec Aa na ca Ah nh ch Au nu cu #[.string i, .string s, .string n, .string x, .string b] 40 _).size)); have HBB1 := Lib.hid hb1; clear n1 hown1 hb1)
        | (refine step_addA (by rfl) _ _ (by rfl) (w.heap.size + 3) A1 na c1 (cellsA qs) (by rfl) (by first | exact HO1.out | exact owns_below HO1.out (Below.refl _ _).drew | exact owns_below HO1.out ((Below.refl _ _).alloc (Nat.le_refl _) _) | exact owns_below HO1.out (((Below.refl _ _).alloc (Nat.le_refl _) _).drew) | exact owns_below HO1.out ((Below.refl _ _).drew.alloc (Nat.le_refl _) _) | exact owns_below HO1.out ((Below.refl _ _).drew.alloc (Nat.le_refl _) _).drew) _ 1 [.string i, .string s, .string n, .string x, .string b] (by rfl) (by first | exact (reads_new _ [.string i, .string s, .string n, .string x, .string b] 40 5 rfl) | exact (reads_new _ [.string i, .string s, .string n, .string x, .string b] 40 5 rfl).drew | exact ((reads_new _ [.string i, .string s, .string n, .string x, .string b] 40 5 rfl).below HBB1.out).more HBB1.out.size | exact ((reads_new _ [.string i, .string s, .string n, .string x, .string b] 40 5 rfl).drew.below HBB1.out).more HBB1.out.size | exact (((reads_new _ [.string i, .string s, .string n, .string x, .string b] 40 5 rfl).below HBB1.out).more HBB1.out.size).drew | exact (((reads_new _ [.string i, .string s, .string n, .string x, .string b] 40 5 rfl).drew.below HBB1.out).more HBB1.out.size).drew) HON2.out (by omega) ((by first | exact HB1.out | exact HB1.out.drew | exact HB1.out.alloc _ | exact (HB1.out.alloc _).drew | exact HB1.out.drew.alloc _ | exact (HB1.out.drew.alloc _).drew) : BxB w sec Aa na ca Ah nh ch Au nu cu #[.string i, .string s, .string n, .string x, .string b] 40 _).size ?_; intro A2 c2 w2 hown2 hb2; have n2 := ((by first | exact HB1.out | exact HB1.out.drew | exact HB1.out.alloc _ | exact (HB1.out.alloc _).drew | exact HB1.out.drew.alloc _ | exact (HB1.out.drew.alloc _).drew) : BxB w sec Aa na ca Ah nh ch Au nu cu #[.string i, .string s, .string n, .string x, .string b] 40 _).far hb2; obtain ⟨p0, p1, p2, p3, p4, p5, p6⟩ := HP.out _ _ _ _ n2; have p8 := n2.bc.1.2.1; have p9 := n2.bc.2.2.1; have HB2 := Lib.hid n2; have HO2 := Lib.hid hown2; clear n2 hown2 hb2))
      all_goals
        obtain ⟨⟨r0, r1, r2, r3⟩, g0, g1, g2, g3⟩ := HB2.out.rc
        obtain ⟨⟨b0, b1, b2, b3⟩, -⟩ := HB2.out.bc
        go_wp2_with fail
        have hl : w.heap.size ≤ w.heap.size + 1 + 1 := by omega
        refine bodyPost_ret (v := .tuple #[.agg #[.string sec, .slice A2 (na + 1) c2, .slice Ah nh ch, .slice Au nu cu], .int .i64 0]) (by simp [results, Tryz.results34, go_sem, r0, r1, r2, r3]) rfl ?_
        have hbb : Below w.heap.size w _ := ((((HB2.out.bel.setCell (p := ⟨w.heap.size, 1, none⟩) (Nat.le_refl _) (.slice A2 (na + 1) c2)).setCell (p := ⟨w.heap.size + 1 + 1, 0, none⟩) hl (.string sec)).setCell (p := ⟨w.heap.size + 1 + 1, 1, none⟩) hl (.slice A2 (na + 1) c2)).setCell (p := ⟨w.heap.size + 1 + 1, 2, none⟩) hl (.slice Ah nh ch)).setCell (p := ⟨w.heap.size + 1 + 1, 3, none⟩) hl (.slice Au nu cu)
        have hlen : na + 1 = (qs ++ [(i, s, n, x, b)]).length := by rw [List.length_append, HQ.out]; rfl
        refine ⟨A2, na + 1, c2, Ah, nh, ch, Au, nu, cu, rfl, hlen, HW.out.2.2.1.symm, HW.out.2.2.2.symm, walM_a (wx := w2) HW.out.1 HW.out.2.1 (by rw [cellsA_app]; exact HO2.out) hlen (by first | exact hbb | exact hbb.drew) ?_ ?_, (by first | exact hbb | exact hbb.drew)⟩
        · intro p hp
          have hcell : ∀ (W : World) (g i : Nat) (u : Value), g < w.heap.size + 3 → (W.setCell ⟨g, i, none⟩ u).cell? p = W.cell? p := fun W g i u hg => World.cell?_setCell_other _ _ _ _ (fun e => by have := congrArg Addr.block e; simp at this; omega)
          first
          | (rw [hcell _ _ _ _ (by omega), hcell _ _ _ _ (by omega), hcell _ _ _ _ (by omega), hcell _ _ _ _ (by omega), hcell _ _ _ _ (by omega)]; done)
          | (show World.cell? (World.setCell _ _ _) p = _; rw [hcell _ _ _ _ (by omega), hcell _ _ _ _ (by omega), hcell _ _ _ _ (by omega), hcell _ _ _ _ (by omega)]; show World.cell? (World.setCell _ _ _) p = _; rw [hcell _ _ _ _ (by omega)]; rfl)
        · first | (simp; done) | (show _ ≤ (World.setCell _ _ _).heap.size; simp; done)
/-- The cells of a row of credentials with one written anew. -/
def setL (L : List Value) (i : Nat) (x : Hz) (A : Option Addr) (c : Nat) : List Value :=
  ((((((((L.set (i * 9) (.string x.iss)).set (i * 9 + 1) (.string x.sch)).set (i * 9 + 2) (.int .i64 x.ver)).set (i * 9 + 3) (.slice A x.att.length c)).set (i * 9 + 4) (.string x.a)).set (i * 9 + 5) (.string x.e)).set (i * 9 + 6) (.string x.v)).set (i * 9 + 7) (.int .i64 x.ep)).set (i * 9 + 8) (.string x.wit)
theorem RelH.set {w : World} {S : Nat → Prop} {x : Hz} {A : Option Addr} {c : Nat} (hr : RowC w S A x.att.length (cellsN x.att)) : ∀ {hs : List Hz} {i : Nat} {L : List Value}, RelH w S hs L → i < hs.length → RelH w S (hs.set i x) (setL L i x A c)
  | [], _, _, _, hi => absurd hi (by simp)
  | y :: r, 0, L, h, _ => by
    obtain ⟨A0, c0, R, rfl, h1, h2⟩ := h
    exact ⟨A, c, R, by simp [setL], hr, h2⟩
  | y :: r, i + 1, L, h, hi => by
    obtain ⟨A0, c0, R, rfl, h1, h2⟩ := h
    refine ⟨A0, c0, setL R i x A c, ?_, h1, RelH.set hr h2 (by simpa using hi)⟩
    have e : (i + 1) * 9 = i * 9 + 9 := by omega
    simp only [setL, e, List.set_cons_succ]
theorem OwnW.setH {w w' : World} {base : Nat} {qs : List Az} {hs : List Hz} {us : List Uz} {vA vU : Value} {g n cap : Nat} (h : OwnW w base qs hs us vA (.slice (some ⟨g, 0, none⟩) n cap) vU) (hn : hs.length = n) {i : Nat} (hi : i < hs.length) {x : Hz} {A : Option Addr} {c : Nat}
    (hr : RowC w (fun k => base ≤ k ∧ k < w.heap.size ∧ vA.ownBlock ≠ some k ∧ some g ≠ some k ∧ vU.ownBlock ≠ some k) A x.att.length (cellsN x.att))
    (hw : w' = ((((((((w.setCell ⟨g, i * 9, none⟩ (.string x.iss)).setCell ⟨g, i * 9 + 1, none⟩ (.string x.sch)).setCell ⟨g, i * 9 + 2, none⟩ (.int .i64 x.ver)).setCell ⟨g, i * 9 + 3, none⟩ (.slice A x.att.length c)).setCell ⟨g, i * 9 + 4, none⟩ (.string x.a)).setCell ⟨g, i * 9 + 5, none⟩ (.string x.e)).setCell ⟨g, i * 9 + 6, none⟩ (.string x.v)).setCell ⟨g, i * 9 + 7, none⟩ (.int .i64 x.ep)).setCell ⟨g, i * 9 + 8, none⟩ (.string x.wit)) :
    OwnW w' base qs (hs.set i x) us vA (.slice (some ⟨g, 0, none⟩) n cap) vU := by
  subst hn
  obtain ⟨L, h1, h2⟩ := h.h
  have s0 := h1.stored (i * 9) (.string x.iss)
  have s1 := s0.1.stored (i * 9 + 1) (.string x.sch)
  have s2 := s1.1.stored (i * 9 + 2) (.int .i64 x.ver)
  have s3 := s2.1.stored (i * 9 + 3) (.slice A x.att.length c)
  have s4 := s3.1.stored (i * 9 + 4) (.string x.a)
  have s5 := s4.1.stored (i * 9 + 5) (.string x.e)
  have s6 := s5.1.stored (i * 9 + 6) (.string x.v)
  have s7 := s6.1.stored (i * 9 + 7) (.int .i64 x.ep)
  have s8 := s7.1.stored (i * 9 + 8) (.string x.wit)
  have hg := (((((((s0.2.trans s1.2).trans s2.2).trans s3.2).trans s4.2).trans s5.2).trans s6.2).trans s7.2).trans s8.2
  have o := s8.1
  rw [← hw] at hg o
  have e : (hs.set i x).length = hs.length := List.length_set ..
  have hk : ∀ p : Addr, (base ≤ p.block ∧ p.block < w.heap.size ∧ vA.ownBlock ≠ some p.block ∧ some g ≠ some p.block ∧ vU.ownBlock ≠ some p.block) → w'.cell? p = w.cell? p := fun p hp => World.cell?_of_block (hg.block p.block hp.2.1 (fun e => hp.2.2.2.1 e.symm))
  have hrel := ((RelH.set (c := c) hr h2 hi).keep hk).mono (S' := fun k => base ≤ k ∧ k < w'.heap.size ∧ vA.ownBlock ≠ some k ∧ (Value.slice (some ⟨g, 0, none⟩) hs.length cap).ownBlock ≠ some k ∧ vU.ownBlock ≠ some k) (fun k hp => ⟨hp.1, Nat.lt_of_lt_of_le hp.2.1 hg.size, hp.2.2⟩)
  refine ⟨owns_grown h.a hg (fun k e1 e2 => h.ah k e1 e2), ⟨_, ?_, hrel⟩, owns_grown h.u hg (fun k e1 e2 => h.hu k e2 e1), h.ah, h.au, h.hu⟩
  rw [e]
  exact o
end Go.Proofs.YtjhlddlocpkhkaaGreat
