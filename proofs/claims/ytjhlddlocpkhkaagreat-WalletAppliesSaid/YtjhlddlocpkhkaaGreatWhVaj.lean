/- Wallet: store where a request has the nonce; printed by genVaj.py. -/
import Derived.Test.YtjhlddlocpkhkaaGreatWhJ25
import Derived.Test.YtjhlddlocpkhkaaGreatWhVai
import Derived.Deep.DeepCutAuto
import Derived.Deep.CutBlock
namespace Go.Proofs.YtjhlddlocpkhkaaGreat
open Go.RowKit
set_option maxRecDepth 100000
set_option linter.unusedVariables false
set_option maxHeartbeats 16000000
/-- Does a credential not fit a request? -/
def badS (x : Hz) (y : Az) : Bool := !(x.iss.toList == y.1.toList) || (!(x.sch.toList == y.2.1.toList) || match x.att with | [] => true | a0 :: _ => !(a0.toList == y.2.2.2.1.toList))
/-- The boxes of store, and its copies of the request and the credential. -/
structure TwoB (w : World) (bc : Array Value) (nc : ByteArray) (cs ca cc : Array Value) (p q : Nat) (W : World) : Prop where
  bx : BxS w bc nc cs W
  one : W.heap[p]? = some (.cells ca 40 (0, 0))
  two : W.heap[q]? = some (.cells cc 45 (0, 0))
section
variable {w W w' : World} {bc cs ca cc : Array Value} {nc : ByteArray} {p q : Nat}
theorem TwoB.next (h : TwoB w bc nc cs ca cc p q W) (hb : Below W.heap.size W w') : TwoB w bc nc cs ca cc p q w' :=
  ⟨h.bx.next hb, (hb.block _ (Array.getElem?_eq_some_iff.1 h.one).1).trans h.one, (hb.block _ (Array.getElem?_eq_some_iff.1 h.two).1).trans h.two⟩
theorem TwoB.new1 (h : BxS w bc nc cs W) : TwoB w bc nc cs ca cc W.heap.size (W.heap.size + 1) ((W.alloc (.cells ca 40)).alloc (.cells cc 45)).drew := by
  have hb : Below W.heap.size W ((W.alloc (.cells ca 40)).alloc (.cells cc 45)).drew := (((Below.refl _ _).alloc (Nat.le_refl _) _).alloc (by simp) _).drew
  exact ⟨h.next hb, (two_boxes W _ _).1, (two_boxes W _ _).2⟩
theorem TwoB.new2 (h : BxS w bc nc cs W) : TwoB w bc nc cs ca cc (W.heap.size + 1) W.heap.size ((W.alloc (.cells cc 45)).alloc (.cells ca 40)).drew := by
  have hb : Below W.heap.size W ((W.alloc (.cells cc 45)).alloc (.cells ca 40)).drew := (((Below.refl _ _).alloc (Nat.le_refl _) _).alloc (by simp) _).drew
  exact ⟨h.next hb, (two_boxes W _ _).2, (two_boxes W _ _).1⟩
end
/-- append of one credential onto an own row, in a region that draws its order. -/
theorem step_append_H1 {w : World} {ops : Array Oper} {o : Oper} {a : Act} {K : Act → World → Prop} {Q : Exit → Act → World → Prop} {E : Prop} (hgd : o.guard = none) (s x : Operand)
    (ho : o.op = .call { callee := .builtin .append, args := #[s, x], argTypes := #[24, 24] })
    (base : Nat) (v : Value) (n : Nat) (L : List Value) (hs : a.eval s = v) (hown : w.ownsRow base 47 9 v n L)
    (y : List Value) (g c : Nat) (hx : a.eval x = .slice (some ⟨g, 0, none⟩) 1 c) (hg : w.heap[g]? = some (.cells y.toArray 47 (0, 0))) (hy : y.length = 9) (hone : ∀ u ∈ y, u.oneCell' = true) (hsz : n + 1 ≤ 100000) (hbase : base ≤ w.heap.size)
    (h : ∀ v' w', w'.ownsRow base 47 9 v' (n + 1) (L ++ y) → w.grownBy w' v.ownBlock → v'.ownBlock = v.ownBlock ∨ v'.ownBlock = some w.heap.size → K (a.put o.dst v') w') :
    if Region.wanted o (yielded ops a.tmps) = true then Oper.wp Tryz.prog o a w K Q else E := by
  obtain ⟨i, hi, hz, hs1, hb1⟩ := infoE_H
  have hlt : g < w.heap.size := (Array.getElem?_eq_some_iff.1 hg).1
  have hr : Reads w w.heap.size 9 (some ⟨g, 0, none⟩) 1 y := ⟨by omega, fun _ => ⟨_, rfl, hlt, fun j u hu => by
    rw [addr_add, Nat.zero_add]
    have := cell_of_row w g j _ _ _ hg
    rw [this, ← hu]
    simp⟩⟩
  refine step_append_any _ hgd s x 24 ho base 47 i (.agg #[.string ByteArray.empty, .string ByteArray.empty, .int .i64 0, .slice none 0 0, .string ByteArray.empty, .string ByteArray.empty, .string ByteArray.empty, .int .i64 0, .string ByteArray.empty]) 9 136 Tryz.underlying24 hi hz hs1 hb1 rfl (by decide) v n L hs hown w.heap.size (some ⟨g, 0, none⟩) 1 c y hx hr hone (by unfold maxLen; omega) (by omega) hbase ?_
  intro v' w' h2 h3 h4
  exact h v' w' h2 h3 h4
theorem OwnW.form3 {w : World} {base na nh nu ca ch cu : Nat} {qs : List Az} {hs : List Hz} {us : List Uz} {Aa Ah Au : Option Addr} (h : OwnW w base qs hs us (.slice Aa na ca) (.slice Ah nh ch) (.slice Au nu cu)) (e1 : qs.length = na) (e2 : hs.length = nh) (e3 : us.length = nu) : WalM w (fun g => base ≤ g ∧ g < w.heap.size) qs hs us Aa Ah Au := by
  subst e1 e2 e3
  exact h.form
theorem BxS.put2 {w W : World} {a b v d : Value} {nc : ByteArray} {cs : Array Value} (h : BxS w #[a, b, v, d] nc cs W) (u : Value) : BxS w #[a, b, u, d] nc cs (W.setCell ⟨w.heap.size, 2, none⟩ u) :=
  ⟨heap_setCell_same W w.heap.size 2 _ _ u h.box, (heap_setCell_other _ _ _ _ (show w.heap.size + 1 ≠ w.heap.size by omega)).trans h.non, (heap_setCell_other _ _ _ _ (show w.heap.size + 2 ≠ w.heap.size by omega)).trans h.arg, (heap_setCell_other _ _ _ _ (show w.heap.size + 3 ≠ w.heap.size by omega)).trans h.res, h.bel.setCell (p := ⟨w.heap.size, 2, none⟩) (Nat.le_refl _) _, by simpa using h.size⟩
theorem BxS.put1 {w W : World} {a b v d : Value} {nc : ByteArray} {cs : Array Value} (h : BxS w #[a, v, b, d] nc cs W) (u : Value) : BxS w #[a, u, b, d] nc cs (W.setCell ⟨w.heap.size, 1, none⟩ u) :=
  ⟨heap_setCell_same W w.heap.size 1 _ _ u h.box, (heap_setCell_other _ _ _ _ (show w.heap.size + 1 ≠ w.heap.size by omega)).trans h.non, (heap_setCell_other _ _ _ _ (show w.heap.size + 2 ≠ w.heap.size by omega)).trans h.arg, (heap_setCell_other _ _ _ _ (show w.heap.size + 3 ≠ w.heap.size by omega)).trans h.res, h.bel.setCell (p := ⟨w.heap.size, 1, none⟩) (Nat.le_refl _) _, by simpa using h.size⟩
theorem BxS.put {w W : World} {a0 a1 a2 a3 : Value} {nc : ByteArray} {cs : Array Value} (h : BxS w #[a0, a1, a2, a3] nc cs W) (b0 b1 b2 b3 : Value) : BxS w #[b0, b1, b2, b3] nc cs ((((W.setCell ⟨w.heap.size, 0, none⟩ b0).setCell ⟨w.heap.size, 1, none⟩ b1).setCell ⟨w.heap.size, 2, none⟩ b2).setCell ⟨w.heap.size, 3, none⟩ b3) := by
  have hn : ∀ (V : World) (i : Nat) (u : Value) (k : Nat), (V.setCell ⟨w.heap.size, i, none⟩ u).heap[w.heap.size + (k + 1)]? = V.heap[w.heap.size + (k + 1)]? := fun V i u k => heap_setCell_other _ _ _ _ (show w.heap.size + (k + 1) ≠ w.heap.size by omega)
  exact ⟨heap_setCell_same _ w.heap.size 3 _ _ b3 (heap_setCell_same _ w.heap.size 2 _ _ b2 (heap_setCell_same _ w.heap.size 1 _ _ b1 (heap_setCell_same _ w.heap.size 0 _ _ b0 h.box))),
    by rw [hn _ _ _ 0, hn _ _ _ 0, hn _ _ _ 0, hn _ _ _ 0]; exact h.non, by rw [hn _ _ _ 1, hn _ _ _ 1, hn _ _ _ 1, hn _ _ _ 1]; exact h.arg, by rw [hn _ _ _ 2, hn _ _ _ 2, hn _ _ _ 2, hn _ _ _ 2]; exact h.res,
    (((h.bel.setCell (p := ⟨w.heap.size, 0, none⟩) (Nat.le_refl _) _).setCell (p := ⟨w.heap.size, 1, none⟩) (Nat.le_refl _) _).setCell (p := ⟨w.heap.size, 2, none⟩) (Nat.le_refl _) _).setCell (p := ⟨w.heap.size, 3, none⟩) (Nat.le_refl _) _, by simpa using h.size⟩
/-- store where a request has the nonce. -/
theorem wal_store_at (sec : ByteArray) (qs : List Az) (hs : List Hz) (us : List Uz) (Aa Ah Au : Option Addr) (na ca nh ch nu cu : Nat) (nc : ByteArray) (x : Hz) (A : Option Addr) (n c : Nat) (j : Nat) (yi ys yn yx yb : ByteArray) (S : Nat → Prop) (w : World) (hq : qs.length = na) (hn : hs.length = nh) (hu : us.length = nu) (hma : na ≤ 100000) (hmh : nh < 4096) (hmu : nu ≤ 100000) (hatt : ∀ x ∈ hs, x.att.length ≤ 100000) (hj : idxA (isA nc) qs 0 = (j : Int)) (hy : qs[j]? = some (yi, ys, yn, yx, yb)) (hnx : x.att.length = n) (hmn : n ≤ 100000) (hrow : RowC w S A n (cellsN x.att)) (h : WalM w S qs hs us Aa Ah Au) (hS : ∀ g, S g → g < w.heap.size) :
    Calls Tryz.prog 63 #[.agg #[.string sec, .slice Aa na ca, .slice Ah nh ch, .slice Au nu cu], .string nc, valH x A n c] w (fun o w' => (badS x (yi, ys, yn, yx, yb) = true ∧ ChErr w 1 o w') ∨ (badS x (yi, ys, yn, yx, yb) = false ∧ ChGot w sec (qs.eraseIdx j) (hs ++ [x]) us o w')) := by
  unfold valH
  have HB0 := Lib.hid (BxS.start (w := w) (bc := #[.string sec, .slice Aa na ca, .slice Ah nh ch, .slice Au nu cu]) (nc := nc) (cs := #[.string x.iss, .string x.sch, .int .i64 x.ver, .slice A n c, .string x.a, .string x.e, .string x.v, .int .i64 x.ep, .string x.wit]))
  have HF := Lib.hid (fun W (hb : BxS w #[.string sec, .slice Aa na ca, .slice Ah nh ch, .slice Au nu cu] nc #[.string x.iss, .string x.sch, .int .i64 x.ver, .slice A n c, .string x.a, .string x.e, .string x.v, .int .i64 x.ep, .string x.wit] W) => index_store qs Aa na ca S nc (w.heap.size + 1) W hq hma (RowC.keep h.a (fun p hp => hb.bel.cell (hS _ hp))) (fun g hg => Nat.lt_of_lt_of_le (hS g hg) hb.bel.size) (cell_of_row W _ 0 _ _ _ hb.non) (by have := hb.size; omega))
  rw [hj] at HF
  have HMF := Lib.hid (fun (fn : Fn) (first cap : Array Value) (w : World) => (rfl : (Instr.makeFunc fn first cap).run Tryz.prog w = .ok (.func fn first cap) w))
  obtain ⟨g, off, rfl, hsg, y0, y1, y2, y3, y4⟩ := SlA.at_ h.a hy
  have HY : Hid (∀ W, Below w.heap.size w W → W.cell? ⟨g, off + j * 5, none⟩ = some (.string yi) ∧ W.cell? ⟨g, off + j * 5 + 1, none⟩ = some (.string ys) ∧ W.cell? ⟨g, off + j * 5 + 2, none⟩ = some (.string yn) ∧ W.cell? ⟨g, off + j * 5 + 3, none⟩ = some (.string yx) ∧ W.cell? ⟨g, off + j * 5 + 4, none⟩ = some (.string yb)) := Lib.hid (fun W hb => ⟨(hb.cell (hS _ hsg)).trans y0, (hb.cell (hS _ hsg)).trans y1, (hb.cell (hS _ hsg)).trans y2, (hb.cell (hS _ hsg)).trans y3, (hb.cell (hS _ hsg)).trans y4⟩)
  have HG : Hid (∀ W, Below w.heap.size w W → g < W.heap.size) := Lib.hid (fun W hb => Nat.lt_of_lt_of_le (hS _ hsg) hb.size)
  have hjn : j < na := by rw [← hq]; exact (List.getElem?_eq_some_iff.1 hy).1
  have HATT : Hid (∀ a0 r, x.att = a0 :: r → ∃ ga oa, A = some ⟨ga, oa, none⟩ ∧ ∀ W, Below w.heap.size w W → W.cell? ⟨ga, oa, none⟩ = some (.string a0)) := Lib.hid (fun a0 r he => by
    obtain ⟨ga, oa, e1, e2, e3⟩ := hrow (by rw [← hnx, he]; simp)
    exact ⟨ga, oa, e1, fun W hb => (hb.cell (hS _ e2)).trans (e3 0 (.string a0) (by rw [he]; rfl))⟩)
  have HMEM := Lib.hid (And.intro h (And.intro hrow hS))
  have HQ := Lib.hid (And.intro hq (And.intro hn (And.intro hu (And.intro hnx (And.intro hatt (And.intro hma (And.intro hmh (And.intro hmu (And.intro hmn hjn)))))))))
  have i5 : (j : Int) < (na : Int) := by omega
  have i6 : (0 : Int) ≤ (j : Int) := by omega
  have d1 : decide ((j : Int) < 0) = false := decide_eq_false (by omega)
  have d2 : ((j : Int) < 0) = False := by simp
  clear h hS hq hn hu hma hmh hmu hatt hj hy hsg y0 y1 y2 y3 y4 hrow hmn
  go_enter Tryz.func63, Tryz.ntmps63
  go_upto_region 1 with fail
  obtain ⟨w0, hw0⟩ : ∃ w0, ((((w.alloc (.cells #[.string sec, .slice (some ⟨g, off, none⟩) na ca, .slice Ah nh ch, .slice Au nu cu] 27)).alloc (.cells #[.string nc] 9)).alloc (.cells #[.string x.iss, .string x.sch, .int .i64 x.ver, .slice A n c, .string x.a, .string x.e, .string x.v, .int .i64 x.ep, .string x.wit] 47)).alloc (.cells #[.string ⟨#[]⟩, .slice none 0 0, .slice none 0 0, .slice none 0 0] 27)) = w0 := ⟨_, rfl⟩
  rw [hw0] at HB0 ⊢
  clear hw0
  have x1 := cell_of_row _ _ 1 _ _ _ HB0.out.box
  have hmf := HMF.out
  go_upto_region 4 with (go_at_call 95; (with_reducible refine (HF.out _ HB0.out).mono ?_); rintro e w1 ⟨rfl, hb1⟩; have HB1 := Lib.hid (HB0.out.next hb1); clear hb1)
  clear x1 hmf HF HB0
  go_cut [9, 10] (fun a b wx => ∃ p q, a = .pointer (some ⟨p, 0, none⟩) ∧ b = .pointer (some ⟨q, 0, none⟩) ∧ TwoB w #[.string sec, .slice (some ⟨g, off, none⟩) na ca, .slice Ah nh ch, .slice Au nu cu] nc #[.string x.iss, .string x.sch, .int .i64 x.ver, .slice A n c, .string x.a, .string x.e, .string x.v, .int .i64 x.ep, .string x.wit] #[.string yi, .string ys, .string yn, .string yx, .string yb] #[.string x.iss, .string x.sch, .int .i64 x.ver, .slice A n c, .string x.a, .string x.e, .string x.v] p q wx)
  case first =>
    have x1 := cell_of_row _ _ 1 _ _ _ HB1.out.box
    have c0 : w1.cell? ⟨w.heap.size + 1 + 1, 0, none⟩ = some (.string x.iss) := cell_of_row _ _ 0 _ _ _ HB1.out.arg
    have c1 : w1.cell? ⟨w.heap.size + 1 + 1, 1, none⟩ = some (.string x.sch) := cell_of_row _ _ 1 _ _ _ HB1.out.arg
    have c2 : w1.cell? ⟨w.heap.size + 1 + 1, 2, none⟩ = some (.int .i64 x.ver) := cell_of_row _ _ 2 _ _ _ HB1.out.arg
    have c3 : w1.cell? ⟨w.heap.size + 1 + 1, 3, none⟩ = some (.slice A n c) := cell_of_row _ _ 3 _ _ _ HB1.out.arg
    have c4 : w1.cell? ⟨w.heap.size + 1 + 1, 4, none⟩ = some (.string x.a) := cell_of_row _ _ 4 _ _ _ HB1.out.arg
    have c5 : w1.cell? ⟨w.heap.size + 1 + 1, 5, none⟩ = some (.string x.e) := cell_of_row _ _ 5 _ _ _ HB1.out.arg
    have c6 : w1.cell? ⟨w.heap.size + 1 + 1, 6, none⟩ = some (.string x.v) := cell_of_row _ _ 6 _ _ _ HB1.out.arg
    obtain ⟨y0, y1, y2, y3, y4⟩ := HY.out w1 HB1.out.bel
    have l0 : w.heap.size < w1.heap.size := by have := HB1.out.size; omega
    have l2 : w.heap.size + 1 + 1 < w1.heap.size := by have := HB1.out.size; omega
    have l3 : g < w1.heap.size := HG.out w1 HB1.out.bel
    obtain ⟨Q, hQ⟩ : ∃ Q, w.heap.size + 1 + 1 = Q := ⟨_, rfl⟩
    obtain ⟨B, hB⟩ : ∃ B, w.heap.size = B := ⟨_, rfl⟩
    rw [hQ] at c0 c1 c2 c3 c4 c5 c6 l2 ⊢
    rw [hB] at x1 l0 ⊢
    have HQB := Lib.hid (And.intro hQ hB)
    clear hQ hB
    go_region
    all_goals
      obtain ⟨rfl, rfl⟩ := HQB.out
      go_wp2_with fail
      go_meet
      first
        | exact ⟨_, _, rfl, rfl, TwoB.new1 HB1.out⟩
        | exact ⟨_, _, rfl, rfl, TwoB.new2 HB1.out⟩
  case rest =>
    obtain ⟨p, q, rfl, rfl, ht⟩ := hcut
    have HT := Lib.hid ht
    clear ht HB1
    go_upto_region 5 with fail
    go_cut [52] (fun b wx => b = .bool (badS x (yi, ys, yn, yx, yb)) ∧ TwoB w #[.string sec, .slice (some ⟨g, off, none⟩) na ca, .slice Ah nh ch, .slice Au nu cu] nc #[.string x.iss, .string x.sch, .int .i64 x.ver, .slice A n c, .string x.a, .string x.e, .string x.v, .int .i64 x.ep, .string x.wit] #[.string yi, .string ys, .string yn, .string yx, .string yb] #[.string x.iss, .string x.sch, .int .i64 x.ver, .slice A n c, .string x.a, .string x.e, .string x.v] p q wx)
    case first =>
      have p0 : wc.cell? ⟨p, 0, none⟩ = some (.string yi) := cell_of_row _ _ 0 _ _ _ HT.out.one
      have p1 : wc.cell? ⟨p, 1, none⟩ = some (.string ys) := cell_of_row _ _ 1 _ _ _ HT.out.one
      have p3 : wc.cell? ⟨p, 3, none⟩ = some (.string yx) := cell_of_row _ _ 3 _ _ _ HT.out.one
      have q0 : wc.cell? ⟨q, 0, none⟩ = some (.string x.iss) := cell_of_row _ _ 0 _ _ _ HT.out.two
      have q1 : wc.cell? ⟨q, 1, none⟩ = some (.string x.sch) := cell_of_row _ _ 1 _ _ _ HT.out.two
      have q3 : wc.cell? ⟨q, 3, none⟩ = some (.slice A n c) := cell_of_row _ _ 3 _ _ _ HT.out.two
      obtain ⟨bb, hbb⟩ : ∃ bb, badS x (yi, ys, yn, yx, yb) = bb := ⟨_, rfl⟩
      have HBB := Lib.hid hbb
      unfold badS at hbb
      dsimp only at hbb
      cases h1 : x.iss.toList == yi.toList
      · rw [h1] at hbb
        obtain rfl : true = bb := hbb
        clear HMEM HQ HATT HY HG
        go_quiet ((fail))
        go_wp2_with fail
        go_meet
        exact ⟨by rw [HBB.out], HT.out.next (below_drewN (Below.refl _ _) _)⟩
      · cases h2 : x.sch.toList == ys.toList
        · rw [h1, h2] at hbb
          obtain rfl : true = bb := hbb
          clear HMEM HQ HATT HY HG
          go_quiet ((fail))
          go_wp2_with fail
          go_meet
          exact ⟨by rw [HBB.out], HT.out.next (below_drewN (Below.refl _ _) _)⟩
        · rcases h3 : x.att with _ | ⟨a0, r⟩
          · rw [h1, h2, h3] at hbb
            obtain rfl : true = bb := hbb
            obtain rfl : 0 = n := by rw [← hnx, h3]; rfl
            clear HMEM HQ HATT HY HG
            go_quiet ((fail))
            go_wp2_with fail
            go_meet
            exact ⟨by rw [HBB.out], HT.out.next (below_drewN (Below.refl _ _) _)⟩
          · obtain ⟨ga, oa, rfl, hca⟩ := HATT.out a0 r h3
            have z0 := hca wc HT.out.bx.bel
            have n4 : 0 < n := by rw [← hnx, h3]; simp
            have n1 : ((n : Int) == 0) = false := beq_eq_false_iff_ne.2 (by omega)
            have n2 : (0 : Int) < (n : Int) := by omega
            have n3 : ¬ n = 0 := by omega
            cases h4 : a0.toList == yx.toList
            · rw [h1, h2, h3] at hbb
              dsimp only at hbb
              rw [h4] at hbb
              obtain rfl : true = bb := hbb
              clear HMEM HQ HATT HY HG hca
              go_quiet ((fail))
              go_wp2_with fail
              go_meet
              exact ⟨by rw [HBB.out], HT.out.next (below_drewN (Below.refl _ _) _)⟩
            · rw [h1, h2, h3] at hbb
              dsimp only at hbb
              rw [h4] at hbb
              obtain rfl : false = bb := hbb
              clear HMEM HQ HATT HY HG hca
              go_quiet ((fail))
              go_wp2_with fail
              go_meet
              exact ⟨by rw [HBB.out], HT.out.next (below_drewN (Below.refl _ _) _)⟩
    case rest =>
      obtain ⟨rfl, ht⟩ := hcut
      have HT2 := Lib.hid ht
      clear ht HT HATT HY HG
      have x2 := cell_of_row _ _ 2 _ _ _ HT2.out.bx.box
      have r0 := cell_of_row _ _ 0 _ _ _ HT2.out.bx.res
      have r1 := cell_of_row _ _ 1 _ _ _ HT2.out.bx.res
      have r2 := cell_of_row _ _ 2 _ _ _ HT2.out.bx.res
      have r3 := cell_of_row _ _ 3 _ _ _ HT2.out.bx.res
      have g0 := frozen_of_row _ _ 0 _ _ HT2.out.bx.res
      have g1 := frozen_of_row _ _ 1 _ _ HT2.out.bx.res
      have g2 := frozen_of_row _ _ 2 _ _ HT2.out.bx.res
      have g3 := frozen_of_row _ _ 3 _ _ HT2.out.bx.res
      cases hbad : badS x (yi, ys, yn, yx, yb) with
      | true =>
        clear HMEM HQ
        go_wp2_with fail
        refine bodyPost_ret (v := .tuple #[.agg #[.string ⟨#[]⟩, .slice none 0 0, .slice none 0 0, .slice none 0 0], .int .i64 1]) (by simp [results, Tryz.results63, go_sem, r0, r1, r2, r3]) rfl ?_
        have hl : w.heap.size ≤ w.heap.size + 3 := by omega
        exact .inl ⟨hbad, rfl, (((HT2.out.bx.bel.setCell (p := ⟨w.heap.size + 3, 0, none⟩) hl _).setCell (p := ⟨w.heap.size + 3, 1, none⟩) hl _).setCell (p := ⟨w.heap.size + 3, 2, none⟩) hl _).setCell (p := ⟨w.heap.size + 3, 3, none⟩) hl _⟩
      | false =>
        have k4 : (4096 ≤ (nh : Int)) = False := by have := HQ.out.2.2.2.2.2.2.1; simp; omega
        have k5 : decide ((4096 : Int) ≤ (nh : Int)) = false := by have := HQ.out.2.2.2.2.2.2.1; exact decide_eq_false (by omega)
        obtain ⟨L, hL1, hL2⟩ := HMEM.out.1.h
        have HL1 := Lib.hid hL1
        have HL2 := Lib.hid hL2
        have HCL := Lib.hid (fun W (hb : Below w.heap.size w W) => cloneR_H L Ah nh ch S W (by rw [hL2.length, HQ.out.2.1]) hL2.one (by have := HQ.out.2.2.2.2.2.2.1; omega) (by have := hL1.keep (w' := W) (fun p hp => hb.cell (HMEM.out.2.2 _ hp)); rwa [HQ.out.2.1] at this) (fun g hg => Nat.lt_of_lt_of_le (HMEM.out.2.2 g hg) hb.size))
        clear hL1 hL2
        go_upto_region 9 with fail
        clear r0 r1 r2 r3 g0 g1 g2 g3
        have HBD := Lib.hid hbad
        clear hbad k4 k5 d1 d2
        go_cut [] (fun wx => ∃ A4 c4, BxS w #[.string sec, .slice (some ⟨g, off, none⟩) na ca, .slice A4 (nh + 1) c4, .slice Au nu cu] nc #[.string x.iss, .string x.sch, .int .i64 x.ver, .slice A n c, .string x.a, .string x.e, .string x.v, .int .i64 x.ep, .string x.wit] wx ∧ wx.ownsRow (w.heap.size + 4) 47 9 (.slice A4 (nh + 1) c4) (nh + 1) (L ++ [.string x.iss, .string x.sch, .int .i64 x.ver, .slice A n c, .string x.a, .string x.e, .string x.v, .int .i64 x.ep, .string x.wit]))
        case first =>
          have HX2 : Hid (BxS w #[.string sec, .slice (some ⟨g, off, none⟩) na ca, .slice Ah nh ch, .slice Au nu cu] nc #[.string x.iss, .string x.sch, .int .i64 x.ver, .slice A n c, .string x.a, .string x.e, .string x.v, .int .i64 x.ep, .string x.wit] wc) := Lib.hid HT2.out.bx
          clear HT2
          have HAL : Hid (∀ W (o : Obj), W.heap.size ≤ W.heap.size → Below W.heap.size W (W.alloc o)) := Lib.hid (fun W o _ => (Below.refl _ _).alloc (Nat.le_refl _) _)
          have HBX : Hid (∀ W, BxS w #[.string sec, .slice (some ⟨g, off, none⟩) na ca, .slice Ah nh ch, .slice Au nu cu] nc #[.string x.iss, .string x.sch, .int .i64 x.ver, .slice A n c, .string x.a, .string x.e, .string x.v, .int .i64 x.ep, .string x.wit] W → W.cell? ⟨w.heap.size, 2, none⟩ = some (.slice Ah nh ch) ∧ W.cell? ⟨w.heap.size + 1 + 1, 0, none⟩ = some (.string x.iss) ∧ W.cell? ⟨w.heap.size + 1 + 1, 1, none⟩ = some (.string x.sch) ∧ W.cell? ⟨w.heap.size + 1 + 1, 2, none⟩ = some (.int .i64 x.ver) ∧ W.cell? ⟨w.heap.size + 1 + 1, 3, none⟩ = some (.slice A n c) ∧ W.cell? ⟨w.heap.size + 1 + 1, 4, none⟩ = some (.string x.a) ∧ W.cell? ⟨w.heap.size + 1 + 1, 5, none⟩ = some (.string x.e) ∧ W.cell? ⟨w.heap.size + 1 + 1, 6, none⟩ = some (.string x.v) ∧ W.cell? ⟨w.heap.size + 1 + 1, 7, none⟩ = some (.int .i64 x.ep) ∧ W.cell? ⟨w.heap.size + 1 + 1, 8, none⟩ = some (.string x.wit)) := Lib.hid (fun W h => ⟨cell_of_row _ _ 2 _ _ _ h.box, cell_of_row _ _ 0 _ _ _ h.arg, cell_of_row _ _ 1 _ _ _ h.arg, cell_of_row _ _ 2 _ _ _ h.arg, cell_of_row _ _ 3 _ _ _ h.arg, cell_of_row _ _ 4 _ _ _ h.arg, cell_of_row _ _ 5 _ _ _ h.arg, cell_of_row _ _ 6 _ _ _ h.arg, cell_of_row _ _ 7 _ _ _ h.arg, cell_of_row _ _ 8 _ _ _ h.arg⟩)
          obtain ⟨x2, c0, c1, c2, c3, c4, c5, c6, c7, c8⟩ := HBX.out _ HX2.out
          have l0 : w.heap.size < wc.heap.size := by have := HX2.out.size; omega
          have l2 : w.heap.size + 1 + 1 < wc.heap.size := by have := HX2.out.size; omega
          have HC1 := Lib.hid (HCL.out wc HX2.out.bel)
          have HC2 := Lib.hid (HCL.out wc.drew HX2.out.bel.drew)
          have HC3 := Lib.hid (HCL.out (wc.alloc (.cells #[.string x.iss, .string x.sch, .int .i64 x.ver, .slice A n c, .string x.a, .string x.e, .string x.v, .int .i64 x.ep, .string x.wit] 47)) (HX2.out.next ((Below.refl _ _).alloc (Nat.le_refl _) _)).bel)
          have HC4 := Lib.hid (HCL.out (wc.alloc (.cells #[.string x.iss, .string x.sch, .int .i64 x.ver, .slice A n c, .string x.a, .string x.e, .string x.v, .int .i64 x.ep, .string x.wit] 47)).drew (HX2.out.next ((Below.refl _ _).alloc (Nat.le_refl _) _)).bel.drew)
          have HONE : Hid (∀ u ∈ ([.string x.iss, .string x.sch, .int .i64 x.ver, .slice A n c, .string x.a, .string x.e, .string x.v, .int .i64 x.ep, .string x.wit] : List Value), u.oneCell' = true) := Lib.hid (by simp [Value.oneCell'])
          have HNH : Hid (nh + 1 ≤ 100000) := Lib.hid (by have := HQ.out.2.2.2.2.2.2.1; omega)
          clear HQ HMEM HL2
          go_region_law (first
            | (go_simp; go_at_call 97; (first | (with_reducible refine HC1.out.mono ?_) | (with_reducible refine HC2.out.mono ?_)); rintro e w3 ⟨v3, rfl, how, hb3⟩; obtain ⟨A3, e3, rfl⟩ := owns_shape how; have n3 : BxS w #[.string sec, .slice (some ⟨g, off, none⟩) na ca, .slice Ah nh ch, .slice Au nu cu] nc #[.string x.iss, .string x.sch, .int .i64 x.ver, .slice A n c, .string x.a, .string x.e, .string x.v, .int .i64 x.ep, .string x.wit] w3 := (by first | exact HX2.out.next hb3 | exact HX2.out.drew.next hb3); obtain ⟨x2', c0', c1', c2', c3', c4', c5', c6', c7', c8'⟩ := HBX.out _ n3; have l0' : w.heap.size < w3.heap.size := (by have := n3.size; omega); have l2' : w.heap.size + 1 + 1 < w3.heap.size := (by have := n3.size; omega); have HOWN := Lib.hid ((owns_mono how (by have := HX2.out.size; simp; omega)).alloc (.cells #[.string x.iss, .string x.sch, .int .i64 x.ver, .slice A n c, .string x.a, .string x.e, .string x.v, .int .i64 x.ep, .string x.wit] 47) : (w3.alloc (.cells #[.string x.iss, .string x.sch, .int .i64 x.ver, .slice A n c, .string x.a, .string x.e, .string x.v, .int .i64 x.ep, .string x.wit] 47)).ownsRow (w.heap.size + 4) 47 9 (.slice A3 nh e3) nh L); have HROW := Lib.hid (heap_alloc_new w3 (.cells #[.string x.iss, .string x.sch, .int .i64 x.ver, .slice A n c, .string x.a, .string x.e, .string x.v, .int .i64 x.ep, .string x.wit] 47)); have HBXA := Lib.hid (n3.next ((Below.refl _ _).alloc (Nat.le_refl _) (.cells #[.string x.iss, .string x.sch, .int .i64 x.ver, .slice A n c, .string x.a, .string x.e, .string x.v, .int .i64 x.ep, .string x.wit] 47))); clear how hb3 n3)
            | (go_simp; go_at_call 97; (first | (with_reducible refine HC3.out.mono ?_) | (with_reducible refine HC4.out.mono ?_)); rintro e w3 ⟨v3, rfl, how, hb3⟩; obtain ⟨A3, e3, rfl⟩ := owns_shape how; have n3 : BxS w #[.string sec, .slice (some ⟨g, off, none⟩) na ca, .slice Ah nh ch, .slice Au nu cu] nc #[.string x.iss, .string x.sch, .int .i64 x.ver, .slice A n c, .string x.a, .string x.e, .string x.v, .int .i64 x.ep, .string x.wit] w3 := (by first | exact (HX2.out.next ((Below.refl _ _).alloc (Nat.le_refl _) _)).next hb3 | exact (HX2.out.next ((Below.refl _ _).alloc (Nat.le_refl _) _)).drew.next hb3); obtain ⟨x2', c0', c1', c2', c3', c4', c5', c6', c7', c8'⟩ := HBX.out _ n3; have HOWN := Lib.hid (owns_mono how (by have := HX2.out.size; simp; omega) : w3.ownsRow (w.heap.size + 4) 47 9 (.slice A3 nh e3) nh L); have HROW : Hid (w3.heap[wc.heap.size]? = some (.cells #[.string x.iss, .string x.sch, .int .i64 x.ver, .slice A n c, .string x.a, .string x.e, .string x.v, .int .i64 x.ep, .string x.wit] 47 (0, 0))) := Lib.hid ((hb3.block _ (by simp)).trans (heap_alloc_new wc (.cells #[.string x.iss, .string x.sch, .int .i64 x.ver, .slice A n c, .string x.a, .string x.e, .string x.v, .int .i64 x.ep, .string x.wit] 47))); have HBXA := Lib.hid n3; clear how hb3 n3)
            | (refine step_append_H1 rfl (.tmp 61) (.tmp 63) rfl (w.heap.size + 4) (.slice A3 nh e3) nh L (by simp [Act.eval]) HOWN.out [.string x.iss, .string x.sch, .int .i64 x.ver, .slice A n c, .string x.a, .string x.e, .string x.v, .int .i64 x.ep, .string x.wit] _ 1 (by simp [Act.eval]) HROW.out rfl HONE.out HNH.out HBXA.out.size ?_; intro v4 w4 h1 h2 h3; obtain ⟨A4, e4, rfl⟩ := owns_shape h1; have HB4 := Lib.hid (HBXA.out.far (below_grown h2 HBXA.out.size (fun g hg => (HOWN.out.lt g hg).1))); have HO4 := Lib.hid h1; have q2 := cell_of_row _ _ 2 _ _ _ HB4.out.box; have f2 := frozen_of_row _ _ 2 _ _ HB4.out.box; clear h1 h2 h3))
          all_goals
            go_wp2_with fail
            go_meet
            exact ⟨A4, e4, HB4.out.put2 _, owns_set HO4.out (by intro e; have := (HO4.out.lt _ e).1; simp at this; omega) _⟩
        case rest =>
          obtain ⟨A4, c4, hb, ho⟩ := hcut
          have HB5 := Lib.hid hb
          have HMW : Hid (WalM wc (fun g => S g ∨ (w.heap.size + 4 ≤ g ∧ g < wc.heap.size)) qs (hs ++ [x]) us (some ⟨g, off, none⟩) A4 Au) := Lib.hid (by
            have hk : ∀ p : Addr, S p.block → wc.cell? p = w.cell? p := fun p hp => hb.bel.cell (HMEM.out.2.2 _ hp)
            have hw := (HMEM.out.1.keep hk).mono (S' := fun g => S g ∨ (w.heap.size + 4 ≤ g ∧ g < wc.heap.size)) (fun g hg => .inl hg)
            refine ⟨hw.a, ⟨L ++ cellsH x A c, ?_, (RelH.keep HL2.out hk |>.mono (fun g hg => Or.inl hg)).app (RelH.single (by rw [hnx]; exact (HMEM.out.2.1.keep hk).mono (fun g hg => Or.inl hg)))⟩, hw.u⟩
            have := (owns_row ho).mono (S' := fun g => S g ∨ (w.heap.size + 4 ≤ g ∧ g < wc.heap.size)) (fun g hg => .inr hg)
            rw [List.length_append, HQ.out.2.1]
            unfold cellsH
            rw [hnx]
            exact this)
          have HC := Lib.hid (wal_copied sec qs (hs ++ [x]) us (some ⟨g, off, none⟩) A4 Au na ca (nh + 1) c4 nu cu _ wc HQ.out.1 (by rw [List.length_append, HQ.out.2.1]; rfl) HQ.out.2.2.1 HQ.out.2.2.2.2.2.1 (by have := HQ.out.2.2.2.2.2.2.1; omega) HQ.out.2.2.2.2.2.2.2.1 (fun y hy => by
            rcases List.mem_append.1 hy with hy | hy
            · exact HQ.out.2.2.2.2.1 y hy
            · rw [List.mem_singleton.1 hy, hnx]; exact HQ.out.2.2.2.2.2.2.2.2.1) HMW.out (fun g hg => by
            rcases hg with hg | hg
            · exact Nat.lt_of_lt_of_le (HMEM.out.2.2 g hg) hb.bel.size
            · exact hg.2))
          have x0 := cell_of_row _ _ 0 _ _ _ hb.box
          have x1 := cell_of_row _ _ 1 _ _ _ hb.box
          have x2 := cell_of_row _ _ 2 _ _ _ hb.box
          have x3 := cell_of_row _ _ 3 _ _ _ hb.box
          clear hb ho HT2 HL1 HL2 HCL HMEM HMW
          go_upto_region 11 with (go_at_call 67; (with_reducible refine HC.out.mono ?_); rintro e w6 ⟨A1, e1, A2, e2, A3, e3, rfl, how, hb6⟩; have HB6 := Lib.hid (HB5.out.next hb6); have HO6 := Lib.hid (how.mono HB5.out.size); have x0 := cell_of_row _ _ 0 _ _ _ HB6.out.box; have x1 := cell_of_row _ _ 1 _ _ _ HB6.out.box; have x2 := cell_of_row _ _ 2 _ _ _ HB6.out.box; have x3 := cell_of_row _ _ 3 _ _ _ HB6.out.box; have y0 := frozen_of_row _ _ 0 _ _ HB6.out.box; have y1 := frozen_of_row _ _ 1 _ _ HB6.out.box; have y2 := frozen_of_row _ _ 2 _ _ HB6.out.box; have y3 := frozen_of_row _ _ 3 _ _ HB6.out.box; clear how hb6)
          have HB7 := Lib.hid (HB6.out.put (.string sec) (.slice A1 na e1) (.slice A2 (nh + 1) e2) (.slice A3 nu e3))
          have HO7 : Hid (OwnW ((((w6.setCell ⟨w.heap.size, 0, none⟩ (.string sec)).setCell ⟨w.heap.size, 1, none⟩ (.slice A1 na e1)).setCell ⟨w.heap.size, 2, none⟩ (.slice A2 (nh + 1) e2)).setCell ⟨w.heap.size, 3, none⟩ (.slice A3 nu e3)) (w.heap.size + 4) qs (hs ++ [x]) us (.slice A1 na e1) (.slice A2 (nh + 1) e2) (.slice A3 nu e3)) := Lib.hid ((((HO6.out.set (a := ⟨w.heap.size, 0, none⟩) (by simp) _).set (a := ⟨w.heap.size, 1, none⟩) (by simp) _).set (a := ⟨w.heap.size, 2, none⟩) (by simp) _).set (a := ⟨w.heap.size, 3, none⟩) (by simp) _)
          obtain ⟨w7, hw7⟩ : ∃ w7, ((((w6.setCell ⟨w.heap.size, 0, none⟩ (.string sec)).setCell ⟨w.heap.size, 1, none⟩ (.slice A1 na e1)).setCell ⟨w.heap.size, 2, none⟩ (.slice A2 (nh + 1) e2)).setCell ⟨w.heap.size, 3, none⟩ (.slice A3 nu e3)) = w7 := ⟨_, rfl⟩
          rw [hw7] at HB7 HO7 ⊢
          clear hw7 x0 x1 x2 x3 y0 y1 y2 y3 HB6 HO6
          obtain ⟨g1, rfl⟩ : ∃ g1, A1 = some ⟨g1, 0, none⟩ := by
            rcases HO7.out.a.2 with ⟨_, h0⟩ | ⟨g, cap, cur, hv, _⟩
            · have := HQ.out.1; omega
            · injection hv with h1; exact ⟨g, h1⟩
          have HDE := Lib.hid (delete_A qs g1 na e1 j (j + 1) (w.heap.size + 4) w7 HQ.out.1 hjn HQ.out.2.2.2.2.2.1 rfl (by have := HO7.out.a; rwa [HQ.out.1] at this))
          have ej : ((j + 1 : Nat) : Int) = (j : Int) + 1 := by omega
          rw [ej] at HDE
          have x1 := cell_of_row _ _ 1 _ _ _ HB7.out.box
          have hwj : IntKind.i64.wrap ((j : Int) + 1) = ((j + 1 : Nat) : Int) := by have := HQ.out.2.2.2.2.2.1; rw [IntKind.wrap_i64]; omega
          go_upto_region 12 with (go_at_call 98; (with_reducible refine HDE.out.mono ?_); rintro e w8 ⟨rfl, ho8, hg8⟩; have hb8 := below_grown hg8 (B := w.heap.size + 4) HB7.out.size (fun g hg => (HO7.out.a.lt g hg).1); have HB8 := Lib.hid (HB7.out.far hb8); have HO8 := Lib.hid (HO7.out.appA (qs' := qs.eraseIdx j) (vA' := .slice (some ⟨g1, 0, none⟩) (na - 1) e1) (by rw [List.length_eraseIdx_of_lt (by rw [HQ.out.1]; exact hjn), HQ.out.1]; exact ho8) hg8 (.inl rfl)); have x1' := cell_of_row _ _ 1 _ _ _ HB8.out.box; have y1 := frozen_of_row _ _ 1 _ _ HB8.out.box; clear ho8 hg8 hb8)
          have HB9 := Lib.hid (HB8.out.put1 (.slice (some ⟨g1, 0, none⟩) (na - 1) e1))
          have HO9 := Lib.hid (HO8.out.set (a := ⟨w.heap.size, 1, none⟩) (by simp) (.slice (some ⟨g1, 0, none⟩) (na - 1) e1))
          clear x1 x1' y1
          obtain ⟨w9, hw9⟩ : ∃ w9, w8.setCell ⟨w.heap.size, 1, none⟩ (.slice (some ⟨g1, 0, none⟩) (na - 1) e1) = w9 := ⟨_, rfl⟩
          rw [hw9] at HB9 HO9 ⊢
          clear hw9
          have x0 := cell_of_row _ _ 0 _ _ _ HB9.out.box
          have x1 := cell_of_row _ _ 1 _ _ _ HB9.out.box
          have x2 := cell_of_row _ _ 2 _ _ _ HB9.out.box
          have x3 := cell_of_row _ _ 3 _ _ _ HB9.out.box
          have r0 := cell_of_row _ _ 0 _ _ _ HB9.out.res
          have r1 := cell_of_row _ _ 1 _ _ _ HB9.out.res
          have r2 := cell_of_row _ _ 2 _ _ _ HB9.out.res
          have r3 := cell_of_row _ _ 3 _ _ _ HB9.out.res
          have y0 := frozen_of_row _ _ 0 _ _ HB9.out.res
          have y1 := frozen_of_row _ _ 1 _ _ HB9.out.res
          have y2 := frozen_of_row _ _ 2 _ _ HB9.out.res
          have y3 := frozen_of_row _ _ 3 _ _ HB9.out.res
          go_wp2_with fail
          have hl : w.heap.size ≤ w.heap.size + 3 := by omega
          have hlen : (qs.eraseIdx j).length = na - 1 := by rw [List.length_eraseIdx_of_lt (by rw [HQ.out.1]; exact hjn), HQ.out.1]
          have o := ((((HO9.out.set (a := ⟨w.heap.size + 3, 0, none⟩) (by simp) (.string sec)).set (a := ⟨w.heap.size + 3, 1, none⟩) (by simp) (.slice (some ⟨g1, 0, none⟩) (na - 1) e1)).set (a := ⟨w.heap.size + 3, 2, none⟩) (by simp) (.slice A2 (nh + 1) e2)).set (a := ⟨w.heap.size + 3, 3, none⟩) (by simp) (.slice A3 nu e3))
          refine bodyPost_ret (v := .tuple #[.agg #[.string sec, .slice (some ⟨g1, 0, none⟩) (na - 1) e1, .slice A2 (nh + 1) e2, .slice A3 nu e3], .int .i64 0]) (by simp [results, Tryz.results63, go_sem, r0, r1, r2, r3]) rfl ?_
          have hll : (hs ++ [x]).length = nh + 1 := by rw [List.length_append, HQ.out.2.1]; rfl
          refine .inr ⟨HBD.out, _, _, _, _, _, _, _, _, _, rfl, hlen.symm, hll.symm, HQ.out.2.2.1.symm, ?_, (((HB9.out.bel.setCell (p := ⟨w.heap.size + 3, 0, none⟩) hl _).setCell (p := ⟨w.heap.size + 3, 1, none⟩) hl _).setCell (p := ⟨w.heap.size + 3, 2, none⟩) hl _).setCell (p := ⟨w.heap.size + 3, 3, none⟩) hl _⟩
          exact (o.form3 hlen hll HQ.out.2.2.1).mono fun g hg => ⟨by have := hg.1; omega, hg.2⟩
end Go.Proofs.YtjhlddlocpkhkaaGreat
