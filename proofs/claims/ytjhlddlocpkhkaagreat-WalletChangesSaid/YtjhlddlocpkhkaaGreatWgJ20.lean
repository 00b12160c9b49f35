/- The reference: ask. Rows that are copied and grown in regions that draw their order. The reference: entry, changed; printed by genNf.py. -/
import Derived.Test.YtjhlddlocpkhkaaGreatWgNi
import Derived.Test.YtjhlddlocpkhkaaGreatWgYt
import Derived.Test.YtjhlddlocpkhkaaGreatWgJ05
import Derived.Test.YtjhlddlocpkhkaaGreatWgJ13
namespace Go.Proofs.YtjhlddlocpkhkaaGreat
open Go.RowKit
set_option maxRecDepth 100000
set_option linter.unusedVariables false
set_option maxHeartbeats 8000000
/-- What a change of the reference hands back where it goes well: it may share memory with what came in. -/
def ChS (S : Nat → Prop) (w : World) (sec : ByteArray) (qs : List Az) (hs : List Hz) (us : List Uz) (o : Ending) (w' : World) : Prop :=
  ∃ A1 n1 c1 A2 n2 c2 A3 n3 c3, o = .returned (.tuple #[.agg #[.string sec, .slice A1 n1 c1, .slice A2 n2 c2, .slice A3 n3 c3], .int .i64 0]) ∧ n1 = qs.length ∧ n2 = hs.length ∧ n3 = us.length ∧ WalM w' (fun g => S g ∨ (w.heap.size ≤ g ∧ g < w'.heap.size)) qs hs us A1 A2 A3 ∧ Below w.heap.size w w'
section
variable {w : World} {ops : Array Oper} {o : Oper} {a : Act} {K : Act → World → Prop} {Q : Exit → Act → World → Prop} {E : Prop}
/-- append of a row onto nil: a copy of the call's own. -/
theorem step_copyA (hgd : o.guard = none) (s x : Operand) (ho : o.op = .call { callee := .builtin .append, args := #[s, x], argTypes := #[23, 23] })
    (hs : a.eval s = .slice none 0 0) (A : Option Addr) (n c : Nat) (news : List Value) (hx : a.eval x = .slice A n c) (hr : Reads w w.heap.size 5 A n news) (h1 : ∀ u ∈ news, u.oneCell' = true) (hn : n ≤ 100000)
    (h : ∀ A' c' w', w'.ownsRow w.heap.size 40 5 (.slice A' n c') n news → Below w.heap.size w w' → K (a.put o.dst (.slice A' n c')) w') :
    if Region.wanted o (yielded ops a.tmps) = true then Oper.wp Tryz.prog o a w K Q else E := by
  obtain ⟨ti, hi, hz, hs1, hb1⟩ := infoE_A
  refine step_append_any w hgd s x 23 ho w.heap.size 40 ti _ 5 80 Tryz.underlying23 hi hz hs1 hb1 rfl (by decide) (.slice none 0 0) 0 [] hs (World.ownsRow_nil w _ _ _) _ A n c news hx hr h1 (by unfold maxLen; omega) (by omega) (Nat.le_refl _) ?_
  intro v' w' hown hg hv
  rw [Nat.zero_add, List.nil_append] at hown
  obtain ⟨A', c', rfl⟩ := owns_shape hown
  exact h A' c' w' hown (below_grown hg (Nat.le_refl _) (fun g hg => by cases hg))
/-- append of one new element onto a row of the call's own. -/
theorem step_addA (hgd : o.guard = none) (s x : Operand) (ho : o.op = .call { callee := .builtin .append, args := #[s, x], argTypes := #[23, 23] })
    (base : Nat) (A : Option Addr) (n c : Nat) (L : List Value) (hs : a.eval s = .slice A n c) (hown : w.ownsRow base 40 5 (.slice A n c) n L) (A' : Option Addr) (c' : Nat) (news : List Value) (hx : a.eval x = .slice A' 1 c') (hr : Reads w w.heap.size 5 A' 1 news) (h1 : ∀ u ∈ news, u.oneCell' = true) (hn : n ≤ 100000) (hb : base ≤ w.heap.size)
    (h : ∀ A' c' w', w'.ownsRow base 40 5 (.slice A' (n + 1) c') (n + 1) (L ++ news) → Below base w w' → K (a.put o.dst (.slice A' (n + 1) c')) w') :
    if Region.wanted o (yielded ops a.tmps) = true then Oper.wp Tryz.prog o a w K Q else E := by
  obtain ⟨ti, hi, hz, hs1, hb1⟩ := infoE_A
  refine step_append_any w hgd s x 23 ho base 40 ti _ 5 80 Tryz.underlying23 hi hz hs1 hb1 rfl (by decide) _ n L hs hown _ A' 1 c' news hx hr h1 (by unfold maxLen; omega) (by omega) hb ?_
  intro v' w' hown' hg hv
  obtain ⟨A', c', rfl⟩ := owns_shape hown'
  exact h A' c' w' hown' (below_grown hg hb (fun g hg' => (hown.lt g hg').1))
end
section
variable {w wx : World} {sec : ByteArray} {Aa : Option Addr} {na ca : Nat} {Ah : Option Addr} {nh ch : Nat} {Au : Option Addr} {nu cu : Nat} {cs : Array Value} {T : TypeId}
theorem BxB.alloc (h : BxB w sec Aa na ca Ah nh ch Au nu cu cs T wx) (o : Obj) : BxB w sec Aa na ca Ah nh ch Au nu cu cs T (wx.alloc o) := h.next ((Below.refl _ _).alloc (Nat.le_refl _) _)
end
/-- The wallet that is handed back: one row anew, the others as they came in. -/
theorem walM_a {w wx w' : World} {S : Nat → Prop} {qs qs' : List Az} {hs : List Hz} {us : List Uz} {Aa Ah Au A2 : Option Addr} {c2 n2 : Nat} (h : WalM w S qs hs us Aa Ah Au) (hS : ∀ g, S g → g < w.heap.size) (o : wx.ownsRow (w.heap.size + 3) 40 5 (.slice A2 n2 c2) n2 (cellsA qs')) (hn : n2 = qs'.length)
    (hb : Below w.heap.size w w') (hk : ∀ p : Addr, w.heap.size + 3 ≤ p.block → w'.cell? p = wx.cell? p) (hz : wx.heap.size ≤ w'.heap.size) : WalM w' (fun g => S g ∨ (w.heap.size ≤ g ∧ g < w'.heap.size)) qs' hs us A2 Ah Au := by
  subst hn
  have h' := (h.keep (w' := w') (fun p hp => hb.cell (hS _ hp))).mono (S' := fun g => S g ∨ (w.heap.size ≤ g ∧ g < w'.heap.size)) (fun g hg => .inl hg)
  exact ⟨RowC.mono (RowC.keep (owns_row o) (fun p hp => hk p hp.1)) (fun g hg => .inr ⟨by have := hg.1; omega, Nat.lt_of_lt_of_le hg.2 hz⟩), h'.h, h'.u⟩
theorem r56_ask_twice (sec : ByteArray) (qs : List Az) (hs : List Hz) (us : List Uz) (Aa Ah Au : Option Addr) (na ca nh ch nu cu : Nat) (i s n x b : ByteArray) (S : Nat → Prop) (w : World) (hq : qs.length = na) (hma : na < 4096) (hno : qs.any (isA n) = true) (h : WalM w S qs hs us Aa Ah Au) (hS : ∀ g, S g → g < w.heap.size) :
    Calls Tryz.prog 34 #[.agg #[.string sec, .slice Aa na ca, .slice Ah nh ch, .slice Au nu cu], .agg #[.string i, .string s, .string n, .string x, .string b]] w (ChErr w 8) := by
  have HB0 := Lib.hid (BxB.start (w := w) (sec := sec) (Aa := Aa) (na := na) (ca := ca) (Ah := Ah) (nh := nh) (ch := ch) (Au := Au) (nu := nu) (cu := cu) (cs := #[.string i, .string s, .string n, .string x, .string b]) (T := 40))
  have HM := Lib.hid (fun W (hb : Below w.heap.size w W) => (h.keep (w' := W) (fun q hq => hb.cell (hS _ hq))).a)
  have HQ := Lib.hid hq
  have HMA := Lib.hid hma
  have HNO := Lib.hid hno
  clear h hS hq hno
  go_enter Tryz.func34, Tryz.ntmps34
  go_wp2_with fail
  go_loopw [6] (fun v wr => ∃ k : Nat, k ≤ na ∧ v = .int .i64 k ∧ ((qs.take k).any (isA n)) = false ∧ BxB w sec Aa na ca Ah nh ch Au nu cu #[.string i, .string s, .string n, .string x, .string b] 40 wr) (fun v _ => na - (intOf v).toNat)
  case atStart => exact ⟨0, Nat.zero_le _, rfl, rfl, HB0.out⟩
  case round =>
    obtain ⟨k, hk, rfl, hany, hb⟩ := hrel
    have HANY := Lib.hid hany
    have HB := Lib.hid hb
    clear hany hb HB0
    obtain ⟨⟨x0, x1, x2, x3⟩, f0, f1, f2, f3⟩ := HB.out.bc
    obtain ⟨⟨r0, r1, r2, r3⟩, g0, g1, g2, g3⟩ := HB.out.rc
    have z2 := cell_of_row wr _ 2 _ _ _ HB.out.arg
    by_cases hlt : k < na
    · obtain ⟨y, hy⟩ : ∃ y, qs[k]? = some y := ⟨qs[k]'(by rw [HQ.out]; exact hlt), List.getElem?_eq_getElem _⟩
      obtain ⟨g, off, rfl, -, -⟩ := (HM.out wr HB.out.bel).at_ (x := y.2.2.2.1) (i := y.1) (s := y.2.1) (n := y.2.2.1) (b := y.2.2.2.2) (k := k) hy
      have yk := (HM.out wr HB.out.bel).nonce hy
      obtain ⟨ny, hny⟩ : ∃ ny, y.2.2.1 = ny := ⟨_, rfl⟩
      rw [hny] at yk
      have HY := Lib.hid (And.intro hy hny)
      have hil : (k : Int) < (na : Int) := by omega
      have HLT := Lib.hid hlt
      clear hy hny hlt
      cases he : (ny.toList == n.toList) with
      | true =>
        go_upto_region 4 with fail
        go_quiet (fail)
        go_wp2_with fail
        refine bodyPost_ret (v := .tuple #[.agg #[.string ⟨#[]⟩, .slice none 0 0, .slice none 0 0, .slice none 0 0], .int .i64 8]) (by simp [results, Tryz.results34, go_sem, r0, r1, r2, r3]) rfl ?_
        exact ⟨rfl, (HB.out.next (below_drewN (Below.refl _ _) _)).zero _ _ _ _⟩
      | false =>
        have HE := Lib.hid he
        go_upto_region 4 with fail
        go_quiet (fail)
        go_wp2_with fail
        go_roundw
        case rel => exact ⟨k + 1, HLT.out, by go_num, any_next HANY.out HY.out.1 (by show (y.2.2.1.toList == n.toList) = false; rw [HY.out.2]; exact HE.out), HB.out.next (below_drewN (Below.refl _ _) _)⟩
        case measure => have := HLT.out; simp only [intOf]; omega
    · exfalso
      obtain rfl : na = k := by omega
      have h1 := HANY.out
      rw [List.take_of_length_le (by rw [HQ.out]; exact Nat.le_refl _)] at h1
      exact absurd (h1.symm.trans HNO.out) (by decide)
theorem r56_ask_ok (sec : ByteArray) (qs : List Az) (hs : List Hz) (us : List Uz) (Aa Ah Au : Option Addr) (na ca nh ch nu cu : Nat) (i s n x b : ByteArray) (S : Nat → Prop) (w : World) (hq : qs.length = na) (hma : na < 4096) (hn : hs.length = nh) (hu : us.length = nu) (hno : qs.any (isA n) = false) (h : WalM w S qs hs us Aa Ah Au) (hS : ∀ g, S g → g < w.heap.size) :
    Calls Tryz.prog 34 #[.agg #[.string sec, .slice Aa na ca, .slice Ah nh ch, .slice Au nu cu], .agg #[.string i, .string s, .string n, .string x, .string b]] w (ChS S w sec (qs ++ [(i, s, n, x, b)]) hs us) := by
  have HB0 := Lib.hid (BxB.start (w := w) (sec := sec) (Aa := Aa) (na := na) (ca := ca) (Ah := Ah) (nh := nh) (ch := ch) (Au := Au) (nu := nu) (cu := cu) (cs := #[.string i, .string s, .string n, .string x, .string b]) (T := 40))
  have HM := Lib.hid (fun W (hb : Below w.heap.size w W) => (h.keep (w' := W) (fun q hq => hb.cell (hS _ hq))).a)
  have HQ := Lib.hid hq
  have HMA := Lib.hid hma
  have HNO := Lib.hid hno
  have HW := Lib.hid (And.intro h (And.intro hS (And.intro hn hu)))
  clear h hS hq hno hn hu
  go_enter Tryz.func34, Tryz.ntmps34
  go_wp2_with fail
  go_loopw [6] (fun v wr => ∃ k : Nat, k ≤ na ∧ v = .int .i64 k ∧ ((qs.take k).any (isA n)) = false ∧ BxB w sec Aa na ca Ah nh ch Au nu cu #[.string i, .string s, .string n, .string x, .string b] 40 wr) (fun v _ => na - (intOf v).toNat)
  case atStart => exact ⟨0, Nat.zero_le _, rfl, rfl, HB0.out⟩
  case round =>
    obtain ⟨k, hk, rfl, hany, hb⟩ := hrel
    have HANY := Lib.hid hany
    have HB := Lib.hid hb
    clear hany hb HB0
    obtain ⟨⟨x0, x1, x2, x3⟩, f0, f1, f2, f3⟩ := HB.out.bc
    obtain ⟨⟨r0, r1, r2, r3⟩, g0, g1, g2, g3⟩ := HB.out.rc
    have z2 := cell_of_row wr _ 2 _ _ _ HB.out.arg
    by_cases hlt : k < na
    · obtain ⟨y, hy⟩ : ∃ y, qs[k]? = some y := ⟨qs[k]'(by rw [HQ.out]; exact hlt), List.getElem?_eq_getElem _⟩
      obtain ⟨g, off, rfl, -, -⟩ := (HM.out wr HB.out.bel).at_ (x := y.2.2.2.1) (i := y.1) (s := y.2.1) (n := y.2.2.1) (b := y.2.2.2.2) (k := k) hy
      have yk := (HM.out wr HB.out.bel).nonce hy
      obtain ⟨ny, hny⟩ : ∃ ny, y.2.2.1 = ny := ⟨_, rfl⟩
      rw [hny] at yk
      have HY := Lib.hid (And.intro hy hny)
      have hil : (k : Int) < (na : Int) := by omega
      have HLT := Lib.hid hlt
      clear hy hny hlt
      cases he : (ny.toList == n.toList) with
      | true =>
        exfalso
        refine absurd ((any_found (k := na) HLT.out HY.out.1 (p := isA n) (by show (y.2.2.1.toList == n.toList) = true; rw [HY.out.2]; exact he)).symm.trans ?_) (by decide : ¬ (true = false))
        rw [List.take_of_length_le (by rw [HQ.out]; exact Nat.le_refl _)]
        exact HNO.out
      | false =>
        have HE := Lib.hid he
        go_upto_region 4 with fail
        go_quiet (fail)
        go_wp2_with fail
        go_roundw
        case rel => exact ⟨k + 1, HLT.out, by go_num, any_next HANY.out HY.out.1 (by show (y.2.2.1.toList == n.toList) = false; rw [HY.out.2]; exact HE.out), HB.out.next (below_drewN (Below.refl _ _) _)⟩
        case measure => have := HLT.out; simp only [intOf]; omega
    · obtain rfl : na = k := by omega
      have k4 : decide ((4096 : Int) ≤ (na : Int)) = false := decide_eq_false (by omega)
      have k5 : ¬ ((4096 : Int) ≤ (na : Int)) := by omega
      have HRA := Lib.hid (fun W (hb : BxB w sec Aa na ca Ah nh ch Au nu cu #[.string i, .string s, .string n, .string x, .string b] 40 W) => (RowC.reads (k := 5) (A := Aa) (n := na) (L := cellsA qs) (by have := HW.out.1.a; unfold SlA at this; rw [HQ.out] at this; exact this) (by rw [cellsA_len, HQ.out]) HW.out.2.1 hb.bel))
      have HONE := Lib.hid (cellsA_one qs)
      have HON2 : Hid (∀ u ∈ [Value.string i, .string s, .string n, .string x, .string b], u.oneCell' = true) := Lib.hid (cellsA_one [(i, s, n, x, b)])
      have HP := Lib.hid (fun (A' : Option Addr) (n' c' : Nat) W (hb : BxB w sec A' n' c' Ah nh ch Au nu cu #[.string i, .string s, .string n, .string x, .string b] 40 W) => And.intro (show ∃ v, W.cell? ⟨w.heap.size, 1, none⟩ = some v from ⟨_, hb.bc.1.2.1⟩) (And.intro hb.bc.2.2.1 (And.intro (cell_of_row W _ 0 _ _ _ hb.arg) (And.intro (cell_of_row W _ 1 _ _ _ hb.arg) (And.intro (cell_of_row W _ 2 _ _ _ hb.arg) (And.intro (cell_of_row W _ 3 _ _ _ hb.arg) (cell_of_row W _ 4 _ _ _ hb.arg)))))))
      clear z2
      obtain ⟨-, zf, z0, z1, z2, z3, z4⟩ := HP.out _ _ _ _ HB.out
      have l0 : w.heap.size < wr.heap.size := by have := HB.out.size; omega
      have l1 : w.heap.size + 1 < wr.heap.size := by have := HB.out.size; omega
      go_upto_region 9 with fail
      go_region_law (first
        | (refine step_copyA (by rfl) _ _ (by rfl) (by rfl) Aa na ca (cellsA qs) (by rfl) (HRA.out _ (by first | exact HB.out | exact HB.out.drew | exact HB.out.alloc _ | exact (HB.out.alloc _).drew | exact HB.out.drew.alloc _ | exact (HB.out.drew.alloc _).drew)) HONE.out (by omega) ?_; intro A1 c1 w1 hown1 hb1; have n1 := ((by first | exact HB.out | exact HB.out.drew | exact HB.out.alloc _ | exact (HB.out.alloc _).drew | exact HB.out.drew.alloc _ | exact (HB.out.drew.alloc _).drew) : BxB w sec Aa na ca Ah nh ch Au nu cu #[.string i, .string s, .string n, .string x, .string b] 40 _).next hb1; obtain ⟨q0, q1, q2, q3, q4, q5, q6⟩ := HP.out _ _ _ _ n1; have q7 := n1.bc.1.2.1; have l2 : w.heap.size < w1.heap.size := (by have := n1.size; omega); have l3 : w.heap.size + 1 < w1.heap.size := (by have := n1.size; omega); have HB1 := Lib.hid n1; have HO1 := Lib.hid (owns_mono hown1 (show w.heap.size + 3 ≤ _ from ((by first | exact HB.out | exact HB.out.drew | exact HB.out.alloc _ | exact (HB.out.alloc _).drew | exact HB.out.drew.alloc _ | exact (HB.out.drew.alloc _).drew) : BxB w sec Aa na ca Ah nh ch Au nu cu #[.string i, .string s, .string n, .string x, .string b] 40 _).size)); have HBB1 := Lib.hid hb1; clear n1 hown1 hb1)
        | (refine step_addA (by rfl) _ _ (by rfl) (w.heap.size + 3) A1 na c1 (cellsA qs) (by rfl) (by first | exact HO1.out | exact owns_below HO1.out (Below.refl _ _).drew | exact owns_below HO1.out ((Below.refl _ _).alloc (Nat.le_refl _) _) | exact owns_below HO1.out (((Below.refl _ _).alloc (Nat.le_refl _) _).drew) | exact owns_below HO1.out ((Below.refl _ _).drew.alloc (Nat.le_refl _) _) | exact owns_below HO1.out ((Below.refl _ _).drew.alloc (Nat.le_refl _) _).drew) _ 1 [.string i, .string s, .string n, .string x, .string b] (by rfl) (by first | exact (reads_new _ [.string i, .string s, .string n, .string x, .string b] 40 5 rfl) | exact (reads_new _ [.string i, .string s, .string n, .string x, .string b] 40 5 rfl).drew | exact ((reads_new _ [.string i, .string s, .string n, .string x, .string b] 40 5 rfl).below HBB1.out).more HBB1.out.size | exact ((reads_new _ [.string i, .string s, .string n, .string x, .string b] 40 5 rfl).drew.below HBB1.out).more HBB1.out.size | exact (((reads_new _ [.string i, .string s, .string n, .string x, .string b] 40 5 rfl).below HBB1.out).more HBB1.out.size).drew | exact (((reads_new _ [.string i, .string s, .string n, .string x, .string b] 40 5 rfl).drew.below HBB1.out).more HBB1.out.size).drew) HON2.out (by omega) ((by first | exact HB1.out | exact HB1.out.drew | exact HB1.out.alloc _ | exact (HB1.out.alloc _).drew | exact HB1.out.drew.alloc _ | exact (HB1.out.drew.alloc _).drew) : BxB w sec Aa na ca Ah nh ch Au nu cu #[.string i, .string s, .string n, .string x, .string b] 40 _).size ?_; intro A2 c2 w2 hown2 hb2; have n2 := ((by first | exact HB1.out | exact HB1.out.drew | exact HB1.out.alloc _ | exact (HB1.out.alloc _).drew | exact HB1.out.drew.alloc _ | exact (HB1.out.drew.alloc _).drew) : BxB w sec Aa na ca Ah nh ch Au nu cu #[.string i, .string s, .string n, .string x, .string b] 40 _).far hb2; obtain ⟨p0, p1, p2, p3, p4, p5, p6⟩ := HP.out _ _ _ _ n2; have p8 := n2.bc.1.2.1; have p9 := n2.bc.2.2.1; have HB2 := Lib.hid n2; have HO2 := Lib.hid hown2; clear n2 hown2 hb2))
      all_goals
        obtain ⟨⟨r0, r1, r2, r3⟩, g0, g1, g2, g3⟩ := HB2.out.rc
        obtain ⟨⟨b0, b1, b2, b3⟩, -⟩ := HB2.out.bc
        go_wp2_with fail
        have hl : w.heap.size ≤ w.heap.size + 1 + 1 := by omega
        refine bodyPost_ret (v := .tuple #[.agg #[.string sec, .slice A2 (na + 1) c2, .slice Ah nh ch, .slice Au nu cu], .int .i64 0]) (by simp [results, Tryz.results34, go_sem, r0, r1, r2, r3]) rfl ?_
        have hbb : Below w.heap.size w _ := ((((HB2.out.bel.setCell (p := ⟨w.heap.size, 1, none⟩) (Nat.le_refl _) (.slice A2 (na + 1) c2)).setCell (p := ⟨w.heap.size + 1 + 1, 0, none⟩) hl (.string sec)).setCell (p := ⟨w.heap.size + 1 + 1, 1, none⟩) hl (.slice A2 (na + 1) c2)).setCell (p := ⟨w.heap.size + 1 + 1, 2, none⟩) hl (.slice Ah nh ch)).setCell (p := ⟨w.heap.size + 1 + 1, 3, none⟩) hl (.slice Au nu cu)
        have hlen : na + 1 = (qs ++ [(i, s, n, x, b)]).length := by rw [List.length_append, HQ.out]; rfl
        refine ⟨A2, na + 1, c2, Ah, nh, ch, Au, nu, cu, rfl, hlen, HW.out.2.2.1.symm, HW.out.2.2.2.symm, walM_a (wx := w2) HW.out.1 HW.out.2.1 (by rw [cellsA_app]; exact HO2.out) hlen (by first | exact hbb | exact hbb.drew) ?_ ?_, (by first | exact hbb | exact hbb.drew)⟩
        · intro p hp
          have hcell : ∀ (W : World) (g i : Nat) (u : Value), g < w.heap.size + 3 → (W.setCell ⟨g, i, none⟩ u).cell? p = W.cell? p := fun W g i u hg => World.cell?_setCell_other _ _ _ _ (fun e => by have := congrArg Addr.block e; simp at this; omega)
          first
          | (rw [hcell _ _ _ _ (by omega), hcell _ _ _ _ (by omega), hcell _ _ _ _ (by omega), hcell _ _ _ _ (by omega), hcell _ _ _ _ (by omega)]; done)
          | (show World.cell? (World.setCell _ _ _) p = _; rw [hcell _ _ _ _ (by omega), hcell _ _ _ _ (by omega), hcell _ _ _ _ (by omega), hcell _ _ _ _ (by omega)]; show World.cell? (World.setCell _ _ _) p = _; rw [hcell _ _ _ _ (by omega)]; rfl)
        · first | (simp; done) | (show _ ≤ (World.setCell _ _ _).heap.size; simp; done)
theorem r56_entry (name : ByteArray) (l : Its) (A : Option Addr) (c : Nat) (S : Nat → Prop) (w : World) (hsz : l.size ≤ 10000) (hsl : SlI w S A l) (hS : ∀ g, S g → g < w.heap.size) (hel : (encOne (2, ⟨#[]⟩, ⟨#[]⟩, .cons 1 ⟨#[]⟩ name .nil l)).length ≤ 200000000) :
    Calls Tryz.prog 116 #[.string name, .slice A l.len c] w fun e w' => e = .returned (.tuple #[.string (encS (2, ⟨#[]⟩, ⟨#[]⟩, .cons 1 ⟨#[]⟩ name .nil l)).1, .int .i64 (encS (2, ⟨#[]⟩, ⟨#[]⟩, .cons 1 ⟨#[]⟩ name .nil l)).2]) ∧ Below w.heap.size w w' := by
  have HT := Lib.hid (fun W => r08_Text name W)
  have HSL := Lib.hid hsl
  have HS := Lib.hid hS
  have hll : l.len ≤ 100000 := Nat.le_trans (Its.len_size l) (Nat.le_trans hsz (by decide))
  obtain ⟨m, hm⟩ : ∃ m, Its.cons 1 ⟨#[]⟩ name .nil l = m := ⟨_, rfl⟩
  have hap : (Its.cons 1 ⟨#[]⟩ name .nil .nil).app l = m := by rw [← hm]; rfl
  have hmz : m.size ≤ 100000 := by rw [← hm]; simp only [Its.size]; omega
  rw [hm] at hel ⊢
  have HLI := Lib.hid (fun A' c' W (h : SlI W (fun g => g < W.heap.size) A' m) => (r08_List m A' c' (fun g => g < W.heap.size) W (Nat.le_trans (Its.len_size m) hmz) h (fun g hg => hg)).mono (R' := fun e w' => ∃ A c, e = .returned (.agg #[.int .i64 2, .string ⟨#[]⟩, .string ⟨#[]⟩, .slice A m.len c]) ∧ SlI w' (fun g => g < w'.heap.size) A m ∧ Below W.heap.size W w') (fun e w' hq => by
    obtain ⟨A, c, he, h1, h2⟩ := hq
    exact ⟨A, c, he, h1.mono (fun g hg => by
      rcases hg with hg | hg
      · exact Nat.lt_of_lt_of_le hg h2.size
      · exact hg.2), h2⟩))
  have HEC := Lib.hid (fun A' c' W S' (h : SlI W S' A' m) (hS' : ∀ g, S' g → g < W.heap.size) => r08_Encode (2, ⟨#[]⟩, ⟨#[]⟩, m) A' c' S' W hmz hel h hS')
  unfold valI at HEC
  dsimp only at HEC
  obtain ⟨r, hr⟩ : ∃ r, encS (2, ⟨#[]⟩, ⟨#[]⟩, m) = r := ⟨_, rfl⟩
  rw [hr] at HEC ⊢
  have HMZ := Lib.hid (And.intro hap (And.intro hll hmz))
  clear hsl hS hsz hel hm hap hmz hr hll
  go_enter Tryz.func116, Tryz.ntmps116
  go_wp2_with (first
    | (go_at_call 83; (with_reducible refine (HT.out _).mono ?_); rintro e w1 ⟨rfl, hb1⟩; have HB1 := Lib.hid hb1; clear hb1)
    | (at_builtin; go_loud (refine wpList_append_Is rfl (.tmp 10) (.tmp 11) rfl w.heap.size (.slice (some ⟨w1.heap.size, 0, none⟩) 1 1) (.cons 1 ⟨#[]⟩ name .nil .nil) (by simp [Act.eval]) (own_one w1 w.heap.size HB1.out.size 1 ⟨#[]⟩ name) l S A c (by simp [Act.eval]) (HSL.out.below (HB1.out.alloc HB1.out.size _) HS.out) HS.out (by simp [Its.len]) HMZ.out.2.1 (by have := HB1.out.size; simp; omega) ?_); intro A3 c3 w3 hs3 hb3; rw [HMZ.out.1] at hs3; rw [HMZ.out.1]; have HB3 := Lib.hid (And.intro hs3 ((HB1.out.alloc HB1.out.size _).trans hb3)); clear hs3 hb3)
    | (go_at_call 118; (with_reducible refine (HLI.out _ _ _ HB3.out.1).mono ?_); rintro e w4 ⟨A4, c4, rfl, hs4, hb4⟩; have HB4 := Lib.hid (And.intro hs4 (below2 HB3.out.2 hb4)); clear hs4 hb4)
    | (go_at_call 133; (with_reducible refine (HEC.out _ _ _ _ HB4.out.1 (fun g hg => hg)).mono ?_); rintro e w5 ⟨rfl, hb5⟩; have HB5 := Lib.hid (below2 HB4.out.2 hb5); clear hb5))
  go_ret2
  exact ⟨rfl, HB5.out⟩
theorem r56_changed (sec : ByteArray) (Aa Ah Au : Option Addr) (na ca nh ch nu cu : Nat) (name : ByteArray) (l : Its) (A : Option Addr) (c : Nat) (S : Nat → Prop) (w : World) (hsz : l.size ≤ 10000) (hsl : SlI w S A l) (hS : ∀ g, S g → g < w.heap.size) (hel : (encOne (2, ⟨#[]⟩, ⟨#[]⟩, .cons 1 ⟨#[]⟩ name .nil l)).length ≤ 200000000) (hok : (encS (2, ⟨#[]⟩, ⟨#[]⟩, .cons 1 ⟨#[]⟩ name .nil l)).2 = 0) :
    Calls Tryz.prog 81 #[.agg #[.string sec, .slice Aa na ca, .slice Ah nh ch, .slice Au nu cu], .int .i64 0, .string name, .slice A l.len c] w fun e w' => e = .returned (.tuple #[.agg #[.string sec, .slice Aa na ca, .slice Ah nh ch, .slice Au nu cu], .string (encS (2, ⟨#[]⟩, ⟨#[]⟩, .cons 1 ⟨#[]⟩ name .nil l)).1, .int .i64 0]) ∧ Below w.heap.size w w' := by
  have HE := Lib.hid (fun W (hb : Below w.heap.size w W) => r56_entry name l A c S W hsz (hsl.below hb hS) (fun g hg => Nat.lt_of_lt_of_le (hS g hg) hb.size) hel)
  rw [hok] at HE
  generalize (encS (2, ⟨#[]⟩, ⟨#[]⟩, .cons 1 ⟨#[]⟩ name .nil l)).1 = r at HE ⊢
  clear hsz hsl hS hel hok
  have HB0 := Lib.hid (And.intro (two_boxes w (.cells #[.string sec, .slice Aa na ca, .slice Ah nh ch, .slice Au nu cu] 27) (.cells #[.string ⟨#[]⟩, .slice none 0 0, .slice none 0 0, .slice none 0 0] 27))
    (((Below.refl w.heap.size w).alloc (Nat.le_refl _) (.cells #[.string sec, .slice Aa na ca, .slice Ah nh ch, .slice Au nu cu] 27)).alloc (by simp) (.cells #[.string ⟨#[]⟩, .slice none 0 0, .slice none 0 0, .slice none 0 0] 27)))
  have hsz0 : w.heap.size + 1 < ((w.alloc (.cells #[.string sec, .slice Aa na ca, .slice Ah nh ch, .slice Au nu cu] 27)).alloc (.cells #[.string ⟨#[]⟩, .slice none 0 0, .slice none 0 0, .slice none 0 0] 27)).heap.size := by simp
  have HZ := Lib.hid hsz0
  clear hsz0
  go_enter Tryz.func81, Tryz.ntmps81
  go_wp2_with (first
    | (go_at_call 116; (with_reducible refine (HE.out _ HB0.out.2).mono ?_); rintro e w1 ⟨rfl, hb1⟩; have hbx := (hb1.block _ (Nat.lt_of_succ_lt HZ.out)).trans HB0.out.1.1; have hres := (hb1.block _ HZ.out).trans HB0.out.1.2; have HB1 := Lib.hid (below2 HB0.out.2 hb1); have x0 := cell_of_row w1 _ 0 _ _ _ hbx; have x1 := cell_of_row w1 _ 1 _ _ _ hbx; have x2 := cell_of_row w1 _ 2 _ _ _ hbx; have x3 := cell_of_row w1 _ 3 _ _ _ hbx; have r0 := cell_of_row w1 _ 0 _ _ _ hres; have r1 := cell_of_row w1 _ 1 _ _ _ hres; have r2 := cell_of_row w1 _ 2 _ _ _ hres; have r3 := cell_of_row w1 _ 3 _ _ _ hres; have g0 := frozen_of_row w1 _ 0 _ _ hres; have g1 := frozen_of_row w1 _ 1 _ _ hres; have g2 := frozen_of_row w1 _ 2 _ _ hres; have g3 := frozen_of_row w1 _ 3 _ _ hres; clear hb1 hbx hres))
  refine bodyPost_ret (v := .tuple #[.agg #[.string sec, .slice Aa na ca, .slice Ah nh ch, .slice Au nu cu], .string r, .int .i64 0]) (by simp [results, Tryz.results81, go_sem, r0, r1, r2, r3]) rfl ?_
  exact ⟨rfl, (((HB1.out.setCell (p := ⟨w.heap.size + 1, 0, none⟩) (Nat.le_succ _) _).setCell (p := ⟨w.heap.size + 1, 1, none⟩) (Nat.le_succ _) _).setCell (p := ⟨w.heap.size + 1, 2, none⟩) (Nat.le_succ _) _).setCell (p := ⟨w.heap.size + 1, 3, none⟩) (Nat.le_succ _) _⟩
theorem r56_changed_e (sec : ByteArray) (Aa Ah Au : Option Addr) (na ca nh ch nu cu : Nat) (name : ByteArray) (A : Option Addr) (n c : Nat) (z : Int) (w : World) (hz : z ≠ 0) :
    Calls Tryz.prog 81 #[.agg #[.string sec, .slice Aa na ca, .slice Ah nh ch, .slice Au nu cu], .int .i64 z, .string name, .slice A n c] w (ZeroErr w z) := by
  have d1 : (z == 0) = false := by simp [hz]
  have HC := Lib.hid (CpB.start (w := w) (sec := sec) (Aa := Aa) (na := na) (ca := ca) (Ah := Ah) (nh := nh) (ch := ch) (Au := Au) (nu := nu) (cu := cu))
  go_enter Tryz.func81, Tryz.ntmps81
  go_wp2_with fail
  refine bodyPost_ret (v := .tuple #[.agg #[.string ⟨#[]⟩, .slice none 0 0, .slice none 0 0, .slice none 0 0], .string ⟨#[]⟩, .int .i64 z]) (by simp [results, Tryz.results81, go_sem]) rfl ?_
  have hl : w.heap.size ≤ w.heap.size + 1 := Nat.le_succ _
  exact ⟨rfl, by first | exact HC.out.bel | exact (((HC.out.bel.setCell (p := ⟨w.heap.size + 1, 0, none⟩) hl _).setCell (p := ⟨w.heap.size + 1, 1, none⟩) hl _).setCell (p := ⟨w.heap.size + 1, 2, none⟩) hl _).setCell (p := ⟨w.heap.size + 1, 3, none⟩) hl _⟩
theorem r56_changed_bad (sec : ByteArray) (Aa Ah Au : Option Addr) (na ca nh ch nu cu : Nat) (name : ByteArray) (l : Its) (A : Option Addr) (c : Nat) (S : Nat → Prop) (w : World) (hsz : l.size ≤ 10000) (hsl : SlI w S A l) (hS : ∀ g, S g → g < w.heap.size) (hel : (encOne (entOf name l)).length ≤ 200000000) (z : Int) (hz : (encS (entOf name l)).2 = z) (hz0 : z ≠ 0) :
    Calls Tryz.prog 81 #[.agg #[.string sec, .slice Aa na ca, .slice Ah nh ch, .slice Au nu cu], .int .i64 0, .string name, .slice A l.len c] w (ZeroErr w z) := by
  have d1 : (z == 0) = false := by simp [hz0]
  have HC := Lib.hid (CpB.start (w := w) (sec := sec) (Aa := Aa) (na := na) (ca := ca) (Ah := Ah) (nh := nh) (ch := ch) (Au := Au) (nu := nu) (cu := cu))
  have HE := Lib.hid (fun W (hb : Below w.heap.size w W) => r56_entry name l A c S W hsz (hsl.below hb hS) (fun g hg => Nat.lt_of_lt_of_le (hS g hg) hb.size) hel)
  have hz' : (encS (2, ⟨#[]⟩, ⟨#[]⟩, .cons 1 ⟨#[]⟩ name .nil l)).2 = z := hz
  rw [hz'] at HE
  generalize (encS (2, ⟨#[]⟩, ⟨#[]⟩, .cons 1 ⟨#[]⟩ name .nil l)).1 = r at HE
  clear hsz hsl hS hel hz hz'
  go_enter Tryz.func81, Tryz.ntmps81
  go_wp2_with (go_at_call 116; (with_reducible refine (HE.out _ HC.out.bel).mono ?_); rintro e w1 ⟨rfl, hb1⟩; have HC1 := Lib.hid (HC.out.next hb1); obtain ⟨⟨r0, r1, r2, r3⟩, g0, g1, g2, g3⟩ := HC1.out.rc; clear hb1)
  refine bodyPost_ret (v := .tuple #[.agg #[.string ⟨#[]⟩, .slice none 0 0, .slice none 0 0, .slice none 0 0], .string ⟨#[]⟩, .int .i64 z]) (by simp [results, Tryz.results81, go_sem, r0, r1, r2, r3]) rfl ?_
  have hl : w.heap.size ≤ w.heap.size + 1 := Nat.le_succ _
  exact ⟨rfl, (((HC1.out.bel.setCell (p := ⟨w.heap.size + 1, 0, none⟩) hl _).setCell (p := ⟨w.heap.size + 1, 1, none⟩) hl _).setCell (p := ⟨w.heap.size + 1, 2, none⟩) hl _).setCell (p := ⟨w.heap.size + 1, 3, none⟩) hl _⟩
end Go.Proofs.YtjhlddlocpkhkaaGreat
