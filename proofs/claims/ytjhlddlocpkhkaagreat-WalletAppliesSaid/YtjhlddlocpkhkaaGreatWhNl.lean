/- The reference: store. -/
import Derived.Test.YtjhlddlocpkhkaaGreatWhJ24
import Derived.Test.YtjhlddlocpkhkaaGreatWhJ28
import Derived.Deep.DeepCutAuto
import Derived.Deep.CutBlock
namespace Go.Proofs.YtjhlddlocpkhkaaGreat
open Go.RowKit
set_option maxRecDepth 100000
set_option linter.unusedVariables false
set_option maxHeartbeats 16000000
/-- In a valid wallet one request at most has a nonce. -/
theorem one_match : ∀ (qs : List Az) (seen : List ByteArray) (nc : ByteArray), validA seen qs = true → qs.filter (isA nc) = (qs.find? (isA nc)).toList
  | [], _, _, _ => rfl
  | x :: r, seen, nc, h => by
    unfold validA at h
    split at h
    · cases h
    · split at h
      · rw [List.filter_cons, List.find?_cons]
        cases hx : isA nc x with
        | false => exact one_match r _ nc h
        | true =>
          have h1 := validA_seen r _ nc h (by rw [List.any_cons]; unfold isA at hx; rw [hx, Bool.true_or])
          simp only [if_true, Option.toList]
          rw [List.filter_eq_nil_iff.2 (fun y hy => by have := List.any_eq_false.1 h1 y hy; simpa using this)]
      · cases h
def zeroA : Az := (⟨#[]⟩, ⟨#[]⟩, ⟨#[]⟩, ⟨#[]⟩, ⟨#[]⟩)
def cellsAz (y : Az) : Array Value := #[.string y.1, .string y.2.1, .string y.2.2.1, .string y.2.2.2.1, .string y.2.2.2.2]
def lastM (l : List Az) (nc : ByteArray) : Az := ((l.filter (isA nc)).getLast?).getD zeroA
/-- What store holds in its loop: the boxes, the request found, the others. -/
structure SwB (w : World) (sec : ByteArray) (Aa : Option Addr) (na ca : Nat) (Ah : Option Addr) (nh ch : Nat) (Au : Option Addr) (nu cu : Nat) (cs : Array Value) (f : Az) (v : Value) (n : Nat) (L : List Az) (wx : World) : Prop where
  bx : BxB w sec Aa na ca Ah nh ch Au nu cu cs 47 wx
  fd : wx.heap[w.heap.size + 1 + 1 + 1]? = some (.cells (cellsAz f) 40 (0, 0))
  own : wx.ownsRow (w.heap.size + 4) 40 5 v n (cellsA L)
  size : w.heap.size + 4 ≤ wx.heap.size
section
variable {w wx w' : World} {sec : ByteArray} {Aa : Option Addr} {na ca : Nat} {Ah : Option Addr} {nh ch : Nat} {Au : Option Addr} {nu cu : Nat} {cs : Array Value} {f : Az} {v : Value} {n : Nat} {L : List Az}
theorem SwB.next (h : SwB w sec Aa na ca Ah nh ch Au nu cu cs f v n L wx) (hb : Below wx.heap.size wx w') : SwB w sec Aa na ca Ah nh ch Au nu cu cs f v n L w' :=
  ⟨h.bx.next hb, (hb.block _ (by have := h.size; omega)).trans h.fd, owns_below h.own hb, Nat.le_trans h.size hb.size⟩
theorem SwB.start {W : World} (h : BxB w sec Aa na ca Ah nh ch Au nu cu cs 47 W) (hz : W.heap.size = w.heap.size + 1 + 1 + 1) : SwB w sec Aa na ca Ah nh ch Au nu cu cs zeroA (.slice none 0 0) 0 [] (W.alloc (.cells (cellsAz zeroA) 40)) :=
  ⟨h.alloc _, by rw [← hz]; exact heap_alloc_new W _, World.ownsRow_nil _ _ _ _, by simp; omega⟩
theorem SwB.drew (h : SwB w sec Aa na ca Ah nh ch Au nu cu cs f v n L wx) : SwB w sec Aa na ca Ah nh ch Au nu cu cs f v n L wx.drew := h.next (Below.refl _ _).drew
theorem SwB.alloc (h : SwB w sec Aa na ca Ah nh ch Au nu cu cs f v n L wx) (o : Obj) : SwB w sec Aa na ca Ah nh ch Au nu cu cs f v n L (wx.alloc o) := h.next ((Below.refl _ _).alloc (Nat.le_refl _) _)
theorem SwB.fc (h : SwB w sec Aa na ca Ah nh ch Au nu cu cs f v n L wx) : (wx.cell? ⟨w.heap.size + 1 + 1 + 1, 0, none⟩ = some (.string f.1) ∧ wx.cell? ⟨w.heap.size + 1 + 1 + 1, 1, none⟩ = some (.string f.2.1) ∧ wx.cell? ⟨w.heap.size + 1 + 1 + 1, 2, none⟩ = some (.string f.2.2.1) ∧ wx.cell? ⟨w.heap.size + 1 + 1 + 1, 3, none⟩ = some (.string f.2.2.2.1) ∧ wx.cell? ⟨w.heap.size + 1 + 1 + 1, 4, none⟩ = some (.string f.2.2.2.2)) ∧ (wx.frozen? ⟨w.heap.size + 1 + 1 + 1, 0, none⟩ = false ∧ wx.frozen? ⟨w.heap.size + 1 + 1 + 1, 1, none⟩ = false ∧ wx.frozen? ⟨w.heap.size + 1 + 1 + 1, 2, none⟩ = false ∧ wx.frozen? ⟨w.heap.size + 1 + 1 + 1, 3, none⟩ = false ∧ wx.frozen? ⟨w.heap.size + 1 + 1 + 1, 4, none⟩ = false) :=
  ⟨⟨cell_of_row wx _ 0 _ _ _ h.fd, cell_of_row wx _ 1 _ _ _ h.fd, cell_of_row wx _ 2 _ _ _ h.fd, cell_of_row wx _ 3 _ _ _ h.fd, cell_of_row wx _ 4 _ _ _ h.fd⟩, frozen_of_row wx _ 0 _ _ h.fd, frozen_of_row wx _ 1 _ _ h.fd, frozen_of_row wx _ 2 _ _ h.fd, frozen_of_row wx _ 3 _ _ h.fd, frozen_of_row wx _ 4 _ _ h.fd⟩
theorem SwB.put (h : SwB w sec Aa na ca Ah nh ch Au nu cu cs f v n L wx) (a b c d e : ByteArray) : SwB w sec Aa na ca Ah nh ch Au nu cu cs (a, b, c, d, e) v n L (((((wx.setCell ⟨w.heap.size + 1 + 1 + 1, 0, none⟩ (.string a)).setCell ⟨w.heap.size + 1 + 1 + 1, 1, none⟩ (.string b)).setCell ⟨w.heap.size + 1 + 1 + 1, 2, none⟩ (.string c)).setCell ⟨w.heap.size + 1 + 1 + 1, 3, none⟩ (.string d)).setCell ⟨w.heap.size + 1 + 1 + 1, 4, none⟩ (.string e)) := by
  have hb : Below (w.heap.size + 1 + 1 + 1) wx (((((wx.setCell ⟨w.heap.size + 1 + 1 + 1, 0, none⟩ (.string a)).setCell ⟨w.heap.size + 1 + 1 + 1, 1, none⟩ (.string b)).setCell ⟨w.heap.size + 1 + 1 + 1, 2, none⟩ (.string c)).setCell ⟨w.heap.size + 1 + 1 + 1, 3, none⟩ (.string d)).setCell ⟨w.heap.size + 1 + 1 + 1, 4, none⟩ (.string e)) := (((((Below.refl _ _).setCell (p := ⟨w.heap.size + 1 + 1 + 1, 0, none⟩) (Nat.le_refl _) _).setCell (p := ⟨w.heap.size + 1 + 1 + 1, 1, none⟩) (Nat.le_refl _) _).setCell (p := ⟨w.heap.size + 1 + 1 + 1, 2, none⟩) (Nat.le_refl _) _).setCell (p := ⟨w.heap.size + 1 + 1 + 1, 3, none⟩) (Nat.le_refl _) _).setCell (p := ⟨w.heap.size + 1 + 1 + 1, 4, none⟩) (Nat.le_refl _) _
  have hne : v.ownBlock ≠ some (w.heap.size + 1 + 1 + 1) := fun e => by have := (h.own.lt _ e).1; omega
  exact ⟨h.bx.far hb, heap_setCell_same _ _ 4 _ _ _ (heap_setCell_same _ _ 3 _ _ _ (heap_setCell_same _ _ 2 _ _ _ (heap_setCell_same _ _ 1 _ _ _ (heap_setCell_same _ _ 0 _ _ _ h.fd)))), owns_set (owns_set (owns_set (owns_set (owns_set h.own hne _) hne _) hne _) hne _) hne _, by simpa using h.size⟩
end
section
variable {w : World} {ops : Array Oper} {o : Oper} {a : Act} {K : Act → World → Prop} {Q : Exit → Act → World → Prop} {E : Prop}
/-- append of a row onto nil: a copy of the call's own. -/
theorem step_copyH (hgd : o.guard = none) (s x : Operand) (ho : o.op = .call { callee := .builtin .append, args := #[s, x], argTypes := #[24, 24] })
    (hs : a.eval s = .slice none 0 0) (A : Option Addr) (n c : Nat) (news : List Value) (hx : a.eval x = .slice A n c) (hr : Reads w w.heap.size 9 A n news) (h1 : ∀ u ∈ news, u.oneCell' = true) (hn : n ≤ 100000)
    (h : ∀ A' c' w', w'.ownsRow w.heap.size 47 9 (.slice A' n c') n news → Below w.heap.size w w' → K (a.put o.dst (.slice A' n c')) w') :
    if Region.wanted o (yielded ops a.tmps) = true then Oper.wp Tryz.prog o a w K Q else E := by
  obtain ⟨ti, hi, hz, hs1, hb1⟩ := infoE_H
  refine step_append_any w hgd s x 24 ho w.heap.size 47 ti _ 9 136 Tryz.underlying24 hi hz hs1 hb1 rfl (by decide) (.slice none 0 0) 0 [] hs (World.ownsRow_nil w _ _ _) _ A n c news hx hr h1 (by unfold maxLen; omega) (by omega) (Nat.le_refl _) ?_
  intro v' w' hown hg hv
  rw [Nat.zero_add, List.nil_append] at hown
  obtain ⟨A', c', rfl⟩ := owns_shape hown
  exact h A' c' w' hown (below_grown hg (Nat.le_refl _) (fun g hg => by cases hg))
/-- append of one new element onto a row of the call's own. -/
theorem step_addH (hgd : o.guard = none) (s x : Operand) (ho : o.op = .call { callee := .builtin .append, args := #[s, x], argTypes := #[24, 24] })
    (base : Nat) (A : Option Addr) (n c : Nat) (L : List Value) (hs : a.eval s = .slice A n c) (hown : w.ownsRow base 47 9 (.slice A n c) n L) (A' : Option Addr) (c' : Nat) (news : List Value) (hx : a.eval x = .slice A' 1 c') (hr : Reads w w.heap.size 9 A' 1 news) (h1 : ∀ u ∈ news, u.oneCell' = true) (hn : n ≤ 100000) (hb : base ≤ w.heap.size)
    (h : ∀ A' c' w', w'.ownsRow base 47 9 (.slice A' (n + 1) c') (n + 1) (L ++ news) → Below base w w' → K (a.put o.dst (.slice A' (n + 1) c')) w') :
    if Region.wanted o (yielded ops a.tmps) = true then Oper.wp Tryz.prog o a w K Q else E := by
  obtain ⟨ti, hi, hz, hs1, hb1⟩ := infoE_H
  refine step_append_any w hgd s x 24 ho base 47 ti _ 9 136 Tryz.underlying24 hi hz hs1 hb1 rfl (by decide) _ n L hs hown _ A' 1 c' news hx hr h1 (by unfold maxLen; omega) (by omega) hb ?_
  intro v' w' hown' hg hv
  obtain ⟨A', c', rfl⟩ := owns_shape hown'
  exact h A' c' w' hown' (below_grown hg hb (fun g hg' => (hown.lt g hg').1))
end
theorem owns_keep2 {w0 w w' : World} {base : Nat} {e : TypeId} {size n : Nat} {v : Value} {xs : List Value} (h0 : w0.ownsRow base e size v n xs) (h : w.ownsRow base e size v n xs) (hb : Below w0.heap.size w w') : w'.ownsRow base e size v n xs := by
  refine ⟨h.1, ?_⟩
  rcases h.2 with hn | ⟨g, cap, cur, rfl, h3, hg, rest⟩
  · exact .inl hn
  · exact .inr ⟨g, cap, cur, rfl, h3, (hb.block g (h0.lt g rfl).2).trans hg, rest⟩
/-- The wallet that store hands back. -/
theorem walM_s {w wx w' : World} {S : Nat → Prop} {qs qs' : List Az} {hs : List Hz} {us : List Uz} {x : Hz} {Aa Ah Au A A1 A2 : Option Addr} {c1 c2 n1 n2 n c : Nat} {L : List Value} (h : WalM w S qs hs us Aa Ah Au) (hS : ∀ g, S g → g < w.heap.size) (hr : RowC w S A n (cellsN x.att)) (hnx : x.att.length = n) (hL : RelH w S hs L)
    (o1 : wx.ownsRow (w.heap.size + 4) 40 5 (.slice A1 n1 c1) n1 (cellsA qs')) (e1 : n1 = qs'.length) (o2 : wx.ownsRow (w.heap.size + 4) 47 9 (.slice A2 n2 c2) n2 (L ++ cellsH x A c)) (e2 : n2 = (hs ++ [x]).length)
    (hb : Below w.heap.size w w') (hk : ∀ p : Addr, w.heap.size + 4 ≤ p.block → w'.cell? p = wx.cell? p) (hz : wx.heap.size ≤ w'.heap.size) : WalM w' (fun g => S g ∨ (w.heap.size ≤ g ∧ g < w'.heap.size)) qs' (hs ++ [x]) us A1 A2 Au := by
  subst e1 e2 hnx
  have hl : ∀ g, S g → S g ∨ (w.heap.size ≤ g ∧ g < w'.heap.size) := fun g hg => .inl hg
  have h' := (h.keep (w' := w') (fun p hp => hb.cell (hS _ hp))).mono hl
  have hown : ∀ g, (w.heap.size + 4 ≤ g ∧ g < wx.heap.size) → S g ∨ (w.heap.size ≤ g ∧ g < w'.heap.size) := fun g hg => .inr ⟨by have := hg.1; omega, Nat.lt_of_lt_of_le hg.2 hz⟩
  exact ⟨RowC.mono (RowC.keep (owns_row o1) (fun p hp => hk p hp.1)) hown, ⟨_, RowC.mono (RowC.keep (owns_row o2) (fun p hp => hk p hp.1)) hown, RelH.app ((hL.keep (fun p hp => hb.cell (hS _ hp))).mono hl) (RelH.single ((hr.keep (fun p hp => hb.cell (hS _ hp))).mono hl))⟩, h'.u⟩
theorem r56_store (sec : ByteArray) (qs : List Az) (hs : List Hz) (us : List Uz) (Aa Ah Au : Option Addr) (na ca nh ch nu cu : Nat) (nc : ByteArray) (x : Hz) (A : Option Addr) (n c : Nat) (S : Nat → Prop) (w : World) (hq : qs.length = na) (hn : hs.length = nh) (hu : us.length = nu) (hma : na < 4096) (hmh : nh < 4096) (hva : validA [] qs = true) (hnx : x.att.length = n) (hrow : RowC w S A n (cellsN x.att)) (h : WalM w S qs hs us Aa Ah Au) (hS : ∀ g, S g → g < w.heap.size) :
    Calls Tryz.prog 36 #[.agg #[.string sec, .slice Aa na ca, .slice Ah nh ch, .slice Au nu cu], .string nc, valH x A n c] w (fun o w' => (qs.find? (isA nc) = none ∧ ChErr w 9 o w') ∨ ∃ y, qs.find? (isA nc) = some y ∧ ((badS x y = true ∧ ChErr w 1 o w') ∨ (badS x y = false ∧ ChS S w sec (qs.filter (fun y => !isA nc y)) (hs ++ [x]) us o w'))) := by
  unfold valH
  have HB0 := Lib.hid (BxB.start (w := w) (sec := sec) (Aa := Aa) (na := na) (ca := ca) (Ah := Ah) (nh := nh) (ch := ch) (Au := Au) (nu := nu) (cu := cu) (cs := #[.string x.iss, .string x.sch, .int .i64 x.ver, .slice A n c, .string x.a, .string x.e, .string x.v, .int .i64 x.ep, .string x.wit]) (T := 47))
  have HS0 := Lib.hid (SwB.start HB0.out (by simp))
  have HM := Lib.hid (fun W (hb : Below w.heap.size w W) => (h.keep (w' := W) (fun q hq => hb.cell (hS _ hq))).a)
  have HQ := Lib.hid hq
  have HW := Lib.hid (And.intro h (And.intro hS (And.intro hn (And.intro hu (And.intro hnx (And.intro hrow (And.intro hva hmh)))))))
  obtain ⟨w0, hw0⟩ : ∃ w0, ((w.alloc (.cells #[.string sec, .slice Aa na ca, .slice Ah nh ch, .slice Au nu cu] 27)).alloc (.cells #[.string x.iss, .string x.sch, .int .i64 x.ver, .slice A n c, .string x.a, .string x.e, .string x.v, .int .i64 x.ep, .string x.wit] 47)).alloc (.cells #[.string ⟨#[]⟩, .slice none 0 0, .slice none 0 0, .slice none 0 0] 27) = w0 := ⟨_, rfl⟩
  have HW0 := Lib.hid hw0
  clear h hS hq hn hu hnx hrow hva hmh hw0
  go_enter Tryz.func36, Tryz.ntmps36
  go_wp2_with fail
  go_loopw [8, 10, 11] (fun v8 v10 v11 wr => ∃ (k m : Nat) (A1 : Option Addr) (c1 : Nat), k ≤ na ∧ v8 = .slice A1 m c1 ∧ v10 = .int .i64 ((qs.take k).filter (isA nc)).length ∧ v11 = .int .i64 k ∧ m ≤ k ∧ m = ((qs.take k).filter (fun y => !isA nc y)).length ∧ SwB w sec Aa na ca Ah nh ch Au nu cu #[.string x.iss, .string x.sch, .int .i64 x.ver, .slice A n c, .string x.a, .string x.e, .string x.v, .int .i64 x.ep, .string x.wit] (lastM (qs.take k) nc) (.slice A1 m c1) m ((qs.take k).filter (fun y => !isA nc y)) wr) (fun _ _ v11 _ => na - (intOf v11).toNat)
  case atStart => exact ⟨0, 0, none, 0, Nat.zero_le _, rfl, rfl, rfl, Nat.le_refl _, rfl, HS0.out⟩
  case round =>
    obtain ⟨k, m, A1, c1, hk, rfl, rfl, rfl, hmk, hmm, hst⟩ := hrel
    have HST := Lib.hid hst
    have HMM := Lib.hid hmm
    clear hst hmm HS0
    obtain ⟨⟨x0, x1, x2, x3⟩, f0, f1, f2, f3⟩ := HST.out.bx.bc
    obtain ⟨q, hq⟩ : ∃ q, ((qs.take k).filter (isA nc)).length = q := ⟨_, rfl⟩
    have hql : q ≤ k := by rw [← hq]; exact Nat.le_trans (List.length_filter_le _ _) (by rw [List.length_take]; omega)
    have HQQ := Lib.hid hq
    rw [hq]
    clear hq
    by_cases hlt : k < na
    · obtain ⟨⟨yi, ys, yn, yx, yb⟩, hy⟩ : ∃ y, qs[k]? = some y := ⟨qs[k]'(by rw [HQ.out]; exact hlt), List.getElem?_eq_getElem _⟩
      obtain ⟨g, off, rfl, hsg, y0, y1, y2, y3, y4⟩ := (HM.out wr HST.out.bx.bel).at_ hy
      have HY := Lib.hid hy
      have hil : (k : Int) < (na : Int) := by omega
      have HLT := Lib.hid hlt
      have htk : qs.take (k + 1) = qs.take k ++ [(yi, ys, yn, yx, yb)] := by rw [List.take_add_one, hy]; rfl
      have HTK := Lib.hid htk
      clear hy hlt hsg htk
      cases he : (yn.toList == nc.toList) with
      | true =>
        have HE := Lib.hid he
        obtain ⟨⟨e0, e1, e2, e3, e4⟩, d0, d1, d2, d3, d4⟩ := HST.out.fc
        go_wp2_with fail
        go_roundw
        case rel =>
          have hf : (qs.take (k + 1)).filter (fun y => !isA nc y) = (qs.take k).filter (fun y => !isA nc y) := by rw [HTK.out, List.filter_append]; simp [isA, HE.out]
          have hg : (qs.take (k + 1)).filter (isA nc) = (qs.take k).filter (isA nc) ++ [(yi, ys, yn, yx, yb)] := by rw [HTK.out, List.filter_append]; simp [isA, HE.out]
          refine ⟨k + 1, m, A1, c1, HLT.out, rfl, ?_, by go_num, by omega, by rw [hf]; exact HMM.out, ?_⟩
          · rw [hg, List.length_append, HQQ.out]
            go_num
          · rw [hf, show lastM (qs.take (k + 1)) nc = (yi, ys, yn, yx, yb) by unfold lastM; rw [hg]; simp]
            exact HST.out.put yi ys yn yx yb
        case measure => have := HLT.out; simp only [intOf]; omega
      | false =>
        have HE := Lib.hid he
        obtain ⟨ti, hi, hz, hs1, hb1⟩ := infoE_A
        obtain ⟨L, hL⟩ : ∃ L, (qs.take k).filter (fun y => !isA nc y) = L := ⟨_, rfl⟩
        have HL := Lib.hid hL
        rw [hL] at HST HMM
        have HON2 : Hid (∀ u ∈ [Value.string yi, .string ys, .string yn, .string yx, .string yb], u.oneCell' = true) := Lib.hid (cellsA_one [(yi, ys, yn, yx, yb)])
        have HRN := Lib.hid (reads_new wr [.string yi, .string ys, .string yn, .string yx, .string yb] 40 5 rfl)
        have HSA := Lib.hid (HST.out.next ((Below.refl _ wr).alloc (Nat.le_refl _) (.cells #[.string yi, .string ys, .string yn, .string yx, .string yb] 40)))
        clear hL
        go_wp2_with (at_builtin; go_loud (refine wpList_append_any _ rfl _ _ 23 rfl (w.heap.size + 4) 40 ti (.agg #[.string ByteArray.empty, .string ByteArray.empty, .string ByteArray.empty, .string ByteArray.empty, .string ByteArray.empty]) 5 80 Tryz.underlying23 hi hz hs1 hb1 rfl (by decide) (.slice A1 m c1) m (cellsA L) rfl HSA.out.own _ (some ⟨wr.heap.size, 0, none⟩) 1 _ [.string yi, .string ys, .string yn, .string yx, .string yb] rfl HRN.out HON2.out (by unfold maxLen; omega) (by omega) HSA.out.size ?_))
        intro v' w4 hown hgrow hv
        obtain ⟨A4, c4, rfl⟩ := owns_shape hown
        have hb4 : Below (w.heap.size + 4) (wr.alloc (.cells #[.string yi, .string ys, .string yn, .string yx, .string yb] 40)) w4 := below_grown hgrow HSA.out.size (fun g hg => (HSA.out.own.lt g hg).1)
        have HS4 : Hid (SwB w sec (some ⟨g, off, none⟩) na ca Ah nh ch Au nu cu #[.string x.iss, .string x.sch, .int .i64 x.ver, .slice A n c, .string x.a, .string x.e, .string x.v, .int .i64 x.ep, .string x.wit] (lastM (qs.take k) nc) (.slice A4 (m + 1) c4) (m + 1) (L ++ [(yi, ys, yn, yx, yb)]) w4) := Lib.hid ⟨HSA.out.bx.far (hb4.mono (by omega)), (hb4.block _ (by omega)).trans HSA.out.fd, by rw [cellsA_app]; exact hown, Nat.le_trans HSA.out.size hb4.size⟩
        clear hown hgrow hv hb4
        go_wp2_with fail
        go_roundw
        case rel =>
          have hf : (qs.take (k + 1)).filter (fun y => !isA nc y) = L ++ [(yi, ys, yn, yx, yb)] := by rw [HTK.out, List.filter_append, HL.out]; simp [isA, HE.out]
          have hg : (qs.take (k + 1)).filter (isA nc) = (qs.take k).filter (isA nc) := by rw [HTK.out, List.filter_append]; simp [isA, HE.out]
          refine ⟨k + 1, m + 1, A4, c4, HLT.out, rfl, by rw [hg, HQQ.out], by go_num, by omega, by rw [hf, List.length_append, ← HMM.out]; rfl, ?_⟩
          rw [hf, show lastM (qs.take (k + 1)) nc = lastM (qs.take k) nc by unfold lastM; rw [hg]]
          exact HS4.out
        case measure => have := HLT.out; simp only [intOf]; omega
    · obtain rfl : na = k := by omega
      have hone := one_match qs [] nc HW.out.2.2.2.2.2.2.1
      have hst := HST.out
      have hqq := HQQ.out
      have hmm := HMM.out
      rw [List.take_of_length_le (by rw [HQ.out]; exact Nat.le_refl _)] at hqq hmm
      rw [List.take_of_length_le (by rw [HQ.out]; exact Nat.le_refl _)] at hst
      cases hfd : qs.find? (isA nc) with
      | none =>
        have HFD := Lib.hid hfd
        rw [hfd] at hone
        obtain rfl : q = 0 := by rw [← hqq, hone]; rfl
        obtain ⟨⟨r0, r1, r2, r3⟩, g0, g1, g2, g3⟩ := HST.out.bx.rc
        clear hone hst hqq hmm hfd
        go_wp2_with fail
        refine bodyPost_ret (v := .tuple #[.agg #[.string ⟨#[]⟩, .slice none 0 0, .slice none 0 0, .slice none 0 0], .int .i64 9]) (by simp [results, Tryz.results36, go_sem, r0, r1, r2, r3]) rfl ?_
        exact .inl ⟨HFD.out, rfl, HST.out.bx.zero _ _ _ _⟩
      | some y =>
        have HFD := Lib.hid hfd
        rw [hfd] at hone
        obtain rfl : q = 1 := by rw [← hqq, hone]; rfl
        have hl : lastM qs nc = y := by unfold lastM; rw [hone]; rfl
        rw [hl] at hst
        obtain ⟨yi, ys, yn, yx, yb⟩ := y
        obtain ⟨L, hL⟩ : ∃ L, qs.filter (fun y => !isA nc y) = L := ⟨_, rfl⟩
        rw [hL] at hst hmm
        have HL := Lib.hid hL
        have HMM2 := Lib.hid hmm
        have HB := Lib.hid (hst.next ((Below.refl _ wr).alloc (Nat.le_refl _) (.cells #[.string x.iss, .string x.sch, .int .i64 x.ver, .slice A n c, .string x.a, .string x.e, .string x.v] 45)))
        have HC := Lib.hid (heap_alloc_new wr (.cells #[.string x.iss, .string x.sch, .int .i64 x.ver, .slice A n c, .string x.a, .string x.e, .string x.v] 45))
        have c0 := cell_of_row wr _ 0 _ _ _ hst.bx.arg
        have c1 := cell_of_row wr _ 1 _ _ _ hst.bx.arg
        have c2 := cell_of_row wr _ 2 _ _ _ hst.bx.arg
        have c3 := cell_of_row wr _ 3 _ _ _ hst.bx.arg
        have c4 := cell_of_row wr _ 4 _ _ _ hst.bx.arg
        have c5 := cell_of_row wr _ 5 _ _ _ hst.bx.arg
        have c6 := cell_of_row wr _ 6 _ _ _ hst.bx.arg
        clear hone hst hqq hmm hl HST HMM HQQ hL hfd
        go_upto_region 14 with fail
        clear c0 c1 c2 c3 c4 c5 c6 x0 x1 x2 x3 f0 f1 f2 f3
        obtain ⟨w1, hw1⟩ : ∃ w1, wr.alloc (.cells #[.string x.iss, .string x.sch, .int .i64 x.ver, .slice A n c, .string x.a, .string x.e, .string x.v] 45) = w1 := ⟨_, rfl⟩
        have HB1 : Hid (SwB w sec Aa na ca Ah nh ch Au nu cu #[.string x.iss, .string x.sch, .int .i64 x.ver, .slice A n c, .string x.a, .string x.e, .string x.v, .int .i64 x.ep, .string x.wit] (yi, ys, yn, yx, yb) (.slice A1 m c1) m L w1) := Lib.hid (by rw [← hw1]; exact HB.out)
        obtain ⟨Q, hQ⟩ : ∃ Q, wr.heap.size = Q := ⟨_, rfl⟩
        have hc := HC.out
        rw [hw1, hQ] at hc
        rw [hw1, hQ]
        have HATT : Hid (∀ a0 r, x.att = a0 :: r → ∃ ga oa, A = some ⟨ga, oa, none⟩ ∧ w1.cell? ⟨ga, oa, none⟩ = some (.string a0)) := Lib.hid (fun a0 r he => by
          obtain ⟨ga, oa, e1, e2, e3⟩ := HW.out.2.2.2.2.2.1 (by rw [← HW.out.2.2.2.2.1, he]; simp)
          exact ⟨ga, oa, e1, (HB1.out.bx.bel.cell (HW.out.2.1 _ e2)).trans (e3 0 (.string a0) (by rw [he]; rfl))⟩)
        have hnx : x.att.length = n := HW.out.2.2.2.2.1
        clear hw1 hQ HB HC
        have q0 := cell_of_row w1 _ 0 _ _ _ hc
        have q1 := cell_of_row w1 _ 1 _ _ _ hc
        have q3 := cell_of_row w1 _ 3 _ _ _ hc
        obtain ⟨⟨p0, p1, p2, p3, p4⟩, -⟩ := HB1.out.fc
        dsimp only at p0 p1 p2 p3 p4
        clear hc
        go_cut [77] (fun b wx => b = .bool (badS x (yi, ys, yn, yx, yb)) ∧ SwB w sec Aa na ca Ah nh ch Au nu cu #[.string x.iss, .string x.sch, .int .i64 x.ver, .slice A n c, .string x.a, .string x.e, .string x.v, .int .i64 x.ep, .string x.wit] (yi, ys, yn, yx, yb) (.slice A1 m c1) m L wx)
        case first =>
          obtain ⟨bb, hbb⟩ : ∃ bb, badS x (yi, ys, yn, yx, yb) = bb := ⟨_, rfl⟩
          have HBB := Lib.hid hbb
          unfold badS at hbb
          dsimp only at hbb
          cases h1 : x.iss.toList == yi.toList
          · rw [h1] at hbb
            obtain rfl : true = bb := hbb
            clear HATT
            go_quiet ((fail))
            go_wp2_with fail
            go_meet
            exact ⟨by rw [HBB.out], HB1.out.next (below_drewN (Below.refl _ _) _)⟩
          · cases h2 : x.sch.toList == ys.toList
            · rw [h1, h2] at hbb
              obtain rfl : true = bb := hbb
              clear HATT
              go_quiet ((fail))
              go_wp2_with fail
              go_meet
              exact ⟨by rw [HBB.out], HB1.out.next (below_drewN (Below.refl _ _) _)⟩
            · rcases h3 : x.att with _ | ⟨a0, r⟩
              · rw [h1, h2, h3] at hbb
                obtain rfl : true = bb := hbb
                obtain rfl : 0 = n := by rw [← hnx, h3]; rfl
                clear HATT
                go_quiet ((fail))
                go_wp2_with fail
                go_meet
                exact ⟨by rw [HBB.out], HB1.out.next (below_drewN (Below.refl _ _) _)⟩
              · obtain ⟨ga, oa, rfl, z0⟩ := HATT.out a0 r h3
                have n4 : 0 < n := by rw [← hnx, h3]; simp
                have n1 : ((n : Int) == 0) = false := beq_eq_false_iff_ne.2 (by omega)
                have n2 : (0 : Int) < (n : Int) := by omega
                have n3 : ¬ n = 0 := by omega
                cases h4 : a0.toList == yx.toList
                · rw [h1, h2, h3] at hbb
                  dsimp only at hbb
                  rw [h4] at hbb
                  obtain rfl : true = bb := hbb
                  clear HATT
                  go_quiet ((fail))
                  go_wp2_with fail
                  go_meet
                  exact ⟨by rw [HBB.out], HB1.out.next (below_drewN (Below.refl _ _) _)⟩
                · rw [h1, h2, h3] at hbb
                  dsimp only at hbb
                  rw [h4] at hbb
                  obtain rfl : false = bb := hbb
                  clear HATT
                  go_quiet ((fail))
                  go_wp2_with fail
                  go_meet
                  exact ⟨by rw [HBB.out], HB1.out.next (below_drewN (Below.refl _ _) _)⟩
        case rest =>
          obtain ⟨rfl, ht⟩ := hcut
          have HT := Lib.hid ht
          clear ht HATT HB1 p0 p1 p2 p3 p4 q0 q1 q3
          obtain ⟨⟨r0, r1, r2, r3⟩, g0, g1, g2, g3⟩ := HT.out.bx.rc
          obtain ⟨⟨x0, x1, x2, x3⟩, f0, f1, f2, f3⟩ := HT.out.bx.bc
          cases hbad : badS x (yi, ys, yn, yx, yb) with
          | true =>
            have HBD := Lib.hid hbad
            clear hbad
            go_wp2_with fail
            refine bodyPost_ret (v := .tuple #[.agg #[.string ⟨#[]⟩, .slice none 0 0, .slice none 0 0, .slice none 0 0], .int .i64 1]) (by simp [results, Tryz.results36, go_sem, r0, r1, r2, r3]) rfl ?_
            exact .inr ⟨_, HFD.out, .inl ⟨HBD.out, rfl, HT.out.bx.zero _ _ _ _⟩⟩
          | false =>
            have HBD := Lib.hid hbad
            clear hbad
            have k4 : (4096 ≤ (nh : Int)) = False := by have := HW.out.2.2.2.2.2.2.2; simp; omega
            have k5 : decide ((4096 : Int) ≤ (nh : Int)) = false := by have := HW.out.2.2.2.2.2.2.2; exact decide_eq_false (by omega)
            obtain ⟨Lh, hL1, hL2⟩ := HW.out.1.h
            have HL1 := Lib.hid hL1
            have HL2 := Lib.hid hL2
            have HNH := Lib.hid HW.out.2.2.2.2.2.2.2
            have hlen : hs.length = nh := HW.out.2.2.1
            have HRH := Lib.hid (fun W (hb : Below w.heap.size w W) => RowC.reads (k := 9) (A := Ah) (n := nh) (L := Lh) (by rw [hlen] at hL1; exact hL1) (by rw [hL2.length, hlen]) HW.out.2.1 hb)
            have HONE := Lib.hid hL2.one
            have HON2 : Hid (∀ u ∈ ([.string x.iss, .string x.sch, .int .i64 x.ver, .slice A n c, .string x.a, .string x.e, .string x.v, .int .i64 x.ep, .string x.wit] : List Value), u.oneCell' = true) := Lib.hid (by simp [Value.oneCell'])
            clear hL1 hL2
            go_upto_region 19 with fail
            clear r0 r1 r2 r3 g0 g1 g2 g3 k4 k5
            go_cut [] (fun wx => ∃ A2 c2, BxB w sec A1 m c1 A2 (nh + 1) c2 Au nu cu #[.string x.iss, .string x.sch, .int .i64 x.ver, .slice A n c, .string x.a, .string x.e, .string x.v, .int .i64 x.ep, .string x.wit] 47 wx ∧ wx.ownsRow (w.heap.size + 4) 40 5 (.slice A1 m c1) m (cellsA L) ∧ wx.ownsRow (w.heap.size + 4) 47 9 (.slice A2 (nh + 1) c2) (nh + 1) (Lh ++ [.string x.iss, .string x.sch, .int .i64 x.ver, .slice A n c, .string x.a, .string x.e, .string x.v, .int .i64 x.ep, .string x.wit]))
            case first =>
              have y0 := cell_of_row wc _ 0 _ _ _ HT.out.bx.arg
              have y1 := cell_of_row wc _ 1 _ _ _ HT.out.bx.arg
              have y2 := cell_of_row wc _ 2 _ _ _ HT.out.bx.arg
              have y3 := cell_of_row wc _ 3 _ _ _ HT.out.bx.arg
              have y4 := cell_of_row wc _ 4 _ _ _ HT.out.bx.arg
              have y5 := cell_of_row wc _ 5 _ _ _ HT.out.bx.arg
              have y6 := cell_of_row wc _ 6 _ _ _ HT.out.bx.arg
              have y7 := cell_of_row wc _ 7 _ _ _ HT.out.bx.arg
              have y8 := cell_of_row wc _ 8 _ _ _ HT.out.bx.arg
              have l0 : w.heap.size < wc.heap.size := by have := HT.out.size; omega
              have l1 : w.heap.size + 1 < wc.heap.size := by have := HT.out.size; omega
              go_region_law (first
                | (refine step_copyH (by rfl) _ _ (by rfl) (by rfl) Ah nh ch Lh (by rfl) (HRH.out _ (by first | exact HT.out | exact HT.out.drew | exact HT.out.alloc _ | exact (HT.out.alloc _).drew | exact HT.out.drew.alloc _ | exact (HT.out.drew.alloc _).drew : SwB w sec Aa na ca Ah nh ch Au nu cu #[.string x.iss, .string x.sch, .int .i64 x.ver, .slice A n c, .string x.a, .string x.e, .string x.v, .int .i64 x.ep, .string x.wit] (yi, ys, yn, yx, yb) (.slice A1 m c1) m L _).bx.bel) HONE.out (by have := HNH.out; omega) ?_; intro A3 c3 w1 hown1 hb1; have n1 := (by first | exact HT.out | exact HT.out.drew | exact HT.out.alloc _ | exact (HT.out.alloc _).drew | exact HT.out.drew.alloc _ | exact (HT.out.drew.alloc _).drew : SwB w sec Aa na ca Ah nh ch Au nu cu #[.string x.iss, .string x.sch, .int .i64 x.ver, .slice A n c, .string x.a, .string x.e, .string x.v, .int .i64 x.ep, .string x.wit] (yi, ys, yn, yx, yb) (.slice A1 m c1) m L _).next hb1; have z0 := cell_of_row w1 _ 0 _ _ _ n1.bx.arg; have z1 := cell_of_row w1 _ 1 _ _ _ n1.bx.arg; have z2 := cell_of_row w1 _ 2 _ _ _ n1.bx.arg; have z3 := cell_of_row w1 _ 3 _ _ _ n1.bx.arg; have z4 := cell_of_row w1 _ 4 _ _ _ n1.bx.arg; have z5 := cell_of_row w1 _ 5 _ _ _ n1.bx.arg; have z6 := cell_of_row w1 _ 6 _ _ _ n1.bx.arg; have z7 := cell_of_row w1 _ 7 _ _ _ n1.bx.arg; have z8 := cell_of_row w1 _ 8 _ _ _ n1.bx.arg; have b1 := n1.bx.bc.1.2.1; have b2 := n1.bx.bc.1.2.2.1; have l2 : w.heap.size < w1.heap.size := (by have := n1.size; omega); have l3 : w.heap.size + 1 < w1.heap.size := (by have := n1.size; omega); have HZ1 : Hid (wc.heap.size ≤ w1.heap.size) := Lib.hid (Nat.le_trans (by first | exact Nat.le_refl _ | (simp; done) | (show _ ≤ (World.alloc _ _).heap.size; simp; done)) hb1.size); have HS1 := Lib.hid n1; have HO1 := Lib.hid (owns_mono hown1 (show wc.heap.size ≤ _ from (by first | exact Nat.le_refl _ | (simp; done) | (show _ ≤ (World.alloc _ _).heap.size; simp; done)))); have HBB1 := Lib.hid hb1; clear n1 hown1 hb1)
                | (refine step_addH (by rfl) _ _ (by rfl) wc.heap.size A3 nh c3 Lh (by rfl) (by first | exact HO1.out | exact owns_below HO1.out (Below.refl _ _).drew | exact owns_below HO1.out ((Below.refl _ _).alloc (Nat.le_refl _) _) | exact owns_below HO1.out (((Below.refl _ _).alloc (Nat.le_refl _) _).drew) | exact owns_below HO1.out ((Below.refl _ _).drew.alloc (Nat.le_refl _) _) | exact owns_below HO1.out ((Below.refl _ _).drew.alloc (Nat.le_refl _) _).drew) _ 1 [.string x.iss, .string x.sch, .int .i64 x.ver, .slice A n c, .string x.a, .string x.e, .string x.v, .int .i64 x.ep, .string x.wit] (by rfl) (by first | exact (reads_new _ [.string x.iss, .string x.sch, .int .i64 x.ver, .slice A n c, .string x.a, .string x.e, .string x.v, .int .i64 x.ep, .string x.wit] 47 9 rfl) | exact (reads_new _ [.string x.iss, .string x.sch, .int .i64 x.ver, .slice A n c, .string x.a, .string x.e, .string x.v, .int .i64 x.ep, .string x.wit] 47 9 rfl).drew | exact ((reads_new _ [.string x.iss, .string x.sch, .int .i64 x.ver, .slice A n c, .string x.a, .string x.e, .string x.v, .int .i64 x.ep, .string x.wit] 47 9 rfl).below HBB1.out).more HBB1.out.size | exact ((reads_new _ [.string x.iss, .string x.sch, .int .i64 x.ver, .slice A n c, .string x.a, .string x.e, .string x.v, .int .i64 x.ep, .string x.wit] 47 9 rfl).drew.below HBB1.out).more HBB1.out.size | exact (((reads_new _ [.string x.iss, .string x.sch, .int .i64 x.ver, .slice A n c, .string x.a, .string x.e, .string x.v, .int .i64 x.ep, .string x.wit] 47 9 rfl).below HBB1.out).more HBB1.out.size).drew | exact (((reads_new _ [.string x.iss, .string x.sch, .int .i64 x.ver, .slice A n c, .string x.a, .string x.e, .string x.v, .int .i64 x.ep, .string x.wit] 47 9 rfl).drew.below HBB1.out).more HBB1.out.size).drew) HON2.out (by have := HNH.out; omega) (by first | exact Nat.le_refl _ | exact HZ1.out | (simp only [World.size_alloc]; omega) | (have := HZ1.out; simp; omega) | (have := HZ1.out; show _ ≤ (World.alloc _ _).heap.size; simp; omega) | (show _ ≤ (World.alloc _ _).heap.size; simp)) ?_; intro A2 c2 w2 hown2 hb2; have n2 : BxB w sec Aa na ca Ah nh ch Au nu cu #[.string x.iss, .string x.sch, .int .i64 x.ver, .slice A n c, .string x.a, .string x.e, .string x.v, .int .i64 x.ep, .string x.wit] 47 w2 := (by first | exact HS1.out | exact HS1.out.drew | exact HS1.out.alloc _ | exact (HS1.out.alloc _).drew | exact HS1.out.drew.alloc _ | exact (HS1.out.drew.alloc _).drew : SwB w sec Aa na ca Ah nh ch Au nu cu #[.string x.iss, .string x.sch, .int .i64 x.ver, .slice A n c, .string x.a, .string x.e, .string x.v, .int .i64 x.ep, .string x.wit] (yi, ys, yn, yx, yb) (.slice A1 m c1) m L _).bx.far (hb2.mono (by have := HT.out.size; omega)); have HOA := Lib.hid (owns_keep2 HT.out.own (by first | exact HS1.out | exact HS1.out.drew | exact HS1.out.alloc _ | exact (HS1.out.alloc _).drew | exact HS1.out.drew.alloc _ | exact (HS1.out.drew.alloc _).drew : SwB w sec Aa na ca Ah nh ch Au nu cu #[.string x.iss, .string x.sch, .int .i64 x.ver, .slice A n c, .string x.a, .string x.e, .string x.v, .int .i64 x.ep, .string x.wit] (yi, ys, yn, yx, yb) (.slice A1 m c1) m L _).own hb2); have a1 := n2.bc.1.2.1; have a2 := n2.bc.1.2.2.1; have a3 := n2.bc.2.2.1; have a4 := n2.bc.2.2.2.1; have HB2 := Lib.hid n2; have HO2 := Lib.hid (owns_mono hown2 (show w.heap.size + 4 ≤ _ from HT.out.size)); clear n2 hown2 hb2))
              all_goals
                go_wp2_with fail
                go_meet
                have hne : ∀ {e : TypeId} {k sz : Nat} {v : Value} {L' : List Value} {W : World}, W.ownsRow (w.heap.size + 4) e sz v k L' → v.ownBlock ≠ some w.heap.size := fun h e => by have := (h.lt _ e).1; omega
                refine ⟨A2, c2, (by first | exact HB2.out.put1.put2 | exact HB2.out.put2.put1 | exact HB2.out.put1.put2.drew | exact HB2.out.put2.put1.drew | exact HB2.out.drew.put1.put2 | exact HB2.out.drew.put2.put1), ?_, ?_⟩
                · exact owns_set (owns_set HOA.out (hne HOA.out) _) (hne HOA.out) _
                · exact owns_set (owns_set HO2.out (hne HO2.out) _) (hne HO2.out) _
            case rest =>
              obtain ⟨A2, c2, hbx, ho1, ho2⟩ := hcut
              have HBX := Lib.hid hbx
              have HO := Lib.hid (And.intro ho1 ho2)
              clear x0 x1 x2 x3 f0 f1 f2 f3
              obtain ⟨⟨r0, r1, r2, r3⟩, g0, g1, g2, g3⟩ := hbx.rc
              obtain ⟨⟨x0, x1, x2, x3⟩, -⟩ := hbx.bc
              clear hbx ho1 ho2
              go_wp2_with fail
              have hl : w.heap.size ≤ w.heap.size + 1 + 1 := by omega
              refine bodyPost_ret (v := .tuple #[.agg #[.string sec, .slice A1 m c1, .slice A2 (nh + 1) c2, .slice Au nu cu], .int .i64 0]) (by simp [results, Tryz.results36, go_sem, r0, r1, r2, r3]) rfl ?_
              have hbb := HBX.out.zero (.string sec) (.slice A1 m c1) (.slice A2 (nh + 1) c2) (.slice Au nu cu)
              have hln : nh + 1 = (hs ++ [x]).length := by rw [List.length_append, hlen]; rfl
              refine .inr ⟨_, HFD.out, .inr ⟨HBD.out, A1, m, c1, A2, nh + 1, c2, Au, nu, cu, rfl, by rw [HL.out]; exact HMM2.out, hln, HW.out.2.2.2.1.symm, ?_, hbb⟩⟩
              rw [HL.out]
              refine walM_s HW.out.1 HW.out.2.1 HW.out.2.2.2.2.2.1 HW.out.2.2.2.2.1 HL2.out (c := c) HO.out.1 HMM2.out (by have := HO.out.2; unfold cellsH; rw [HW.out.2.2.2.2.1]; exact this) hln hbb ?_ (by simp)
              intro p hp
              have hcell : ∀ (W : World) (i : Nat) (u : Value), (W.setCell ⟨w.heap.size + 1 + 1, i, none⟩ u).cell? p = W.cell? p := fun W i u => World.cell?_setCell_other _ _ _ _ (fun e => by have := congrArg Addr.block e; simp at this; omega)
              rw [hcell, hcell, hcell, hcell]
end Go.Proofs.YtjhlddlocpkhkaaGreat
