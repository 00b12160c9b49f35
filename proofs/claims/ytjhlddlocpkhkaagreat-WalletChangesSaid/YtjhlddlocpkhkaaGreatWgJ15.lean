/- Wallet: what the reader's held keeps: its boxes, the reader of the list, the reader of the numbers. Wallet: the effect of the entry "secret"; New. Wallet: slices.Equal of numbers; same. -/
import Derived.Test.YtjhlddlocpkhkaaGreatWgJ06
import Derived.Test.YtjhlddlocpkhkaaGreatWgJ01
import Derived.Test.YtjhlddlocpkhkaaGreatWgWq
import Derived.Test.YtjhlddlocpkhkaaGreatWgJ13
import Derived.Test.YtjhlddlocpkhkaaGreatWgYu
import Derived.Test.YtjhlddlocpkhkaaGreatWgJ03
namespace Go.Proofs.YtjhlddlocpkhkaaGreat
open Go.RowKit
set_option maxRecDepth 100000
set_option linter.unusedVariables false
set_option maxHeartbeats 8000000
section
variable {w W w' : World} {rb r1 : Nat} {S : Nat → Prop} {r l l' : Its} {hv : Array Value} {row : Option Nat}
end
theorem OwnS.at_ {w : World} {base n : Nat} {v : Value} {ls : List ByteArray} (h : OwnS w base v n ls) : ∀ k, v.ownBlock = some k → base ≤ k ∧ k < w.heap.size := by
  intro k hk
  rcases h.2.2 with ⟨rfl, _⟩ | ⟨g, cap, cur, rfl, h1, hg, rest⟩
  · cases hk
  · cases hk
    exact ⟨h1, (Array.getElem?_eq_some_iff.1 hg).1⟩
theorem OwnS.rowC {w : World} {base n c : Nat} {A : Option Addr} {ls : List ByteArray} (h : OwnS w base (.slice A n c) n ls) : RowC w (fun g => base ≤ g ∧ g < w.heap.size) A n (cellsN ls) := by
  intro h0
  obtain ⟨hn, hr⟩ := h
  rcases hr.2 with ⟨e, e2⟩ | ⟨g, cap, cur, e, hb, hg, _⟩
  · injection e with _ e _; omega
  · injection e with e1 e2 e3
    subst e1
    refine ⟨g, 0, rfl, ⟨hb, (Array.getElem?_eq_some_iff.1 hg).1⟩, fun j u hj => ?_⟩
    have := hr.cells (g := g) rfl j _ hj
    rw [addr_add] at this
    exact this
theorem wal_New (x : ByteArray) (w : World) : Calls Tryz.prog 60 #[.string x] w fun e w' => e = .returned (.agg #[.string x, .slice none 0 0, .slice none 0 0, .slice none 0 0]) ∧ Below w.heap.size w w' := by
  go_enter Tryz.func60, Tryz.ntmps60
  go_wp2_with fail
  refine bodyPost_ret (v := .agg #[.string x, .slice none 0 0, .slice none 0 0, .slice none 0 0]) (by simp [results, Tryz.results60, go_sem]) rfl ?_
  exact ⟨rfl, (Below.refl _ _).alloc (Nat.le_refl _) _⟩
/-- What an effect hands back. -/
def EffGot (w : World) (rb : Nat) (sec : ByteArray) (qs : List Az) (hs : List Hz) (us : List Uz) (o : Ending) (w' : World) : Prop :=
  ∃ A1 n1 c1 A2 n2 c2 A3 n3 c3, o = .returned (.tuple #[.agg #[.string sec, .slice A1 n1 c1, .slice A2 n2 c2, .slice A3 n3 c3], .int .i64 0]) ∧ n1 = qs.length ∧ n2 = hs.length ∧ n3 = us.length ∧ WalM w' (fun g => w.heap.size ≤ g ∧ g < w'.heap.size) qs hs us A1 A2 A3 ∧ w.grownBy w' (some rb)
theorem WalM.nil_ {w : World} {S : Nat → Prop} : WalM w S [] [] [] none none none :=
  ⟨fun h => absurd h (by simp), ⟨[], fun h => absurd h (by simp), rfl⟩, fun h => absurd h (by simp)⟩
theorem wal_secret (sec : ByteArray) (Aa Ah Au : Option Addr) (na ca nh ch nu cu : Nat) (n t : ByteArray) (l : Its) (A : Option Addr) (c rb : Nat) (S : Nat → Prop) (w : World) (hc : 1 ≤ c) (hb : RdI A 1 c rb w) (hsl : SlK w S A (.cons 0 n t l .nil)) (hS : ∀ g, S g → g < w.heap.size ∧ g ≠ rb) :
    Calls Tryz.prog 20 #[.agg #[.string sec, .slice Aa na ca, .slice Ah nh ch, .slice Au nu cu], .pointer (some ⟨rb, 0, none⟩)] w (EffGot w rb n [] [] []) := by
  obtain ⟨W, hW⟩ : ∃ W, ((w.alloc (.cells #[.string sec, .slice Aa na ca, .slice Ah nh ch, .slice Au nu cu] 70)).alloc (.cells #[.string ⟨#[]⟩, .slice none 0 0, .slice none 0 0, .slice none 0 0] 27)) = W := ⟨_, rfl⟩
  have hbw : Below w.heap.size w W := by rw [← hW]; exact ((Below.refl _ _).alloc (Nat.le_refl _) _).alloc (by simp) _
  have hbx := (two_boxes w (.cells #[.string sec, .slice Aa na ca, .slice Ah nh ch, .slice Au nu cu] 70) (.cells #[.string ⟨#[]⟩, .slice none 0 0, .slice none 0 0, .slice none 0 0] 27)).2
  have hsz : W.heap.size = w.heap.size + 2 := by rw [← hW]; simp
  rw [hW] at hbx
  have hlt := hb.lt
  have HN := Lib.hid (wal_nat n t l .nil A 1 c rb S W rfl (by decide) hc (hb.keep hbw) (hsl.below hbw (fun g hg => (hS g hg).1)) (fun g hg => ⟨Nat.lt_of_lt_of_le (hS g hg).1 hbw.size, (hS g hg).2⟩))
  have HE := Lib.hid (fun A c W hb => wal_end A c rb W hb)
  have HNW := Lib.hid (fun W => wal_New n W)
  have HW := Lib.hid (And.intro hbw (And.intro hbx hsz))
  rw [← hW] at HN HW
  clear hb hsl hS hc hbw hbx hsz hW
  go_enter Tryz.func20, Tryz.ntmps20
  go_upto_region 3 with (first
    | (go_at_call 58; (with_reducible refine HN.out.mono ?_); rintro o w5 ⟨A2, c2, rfl, h2, h4, h5, h6⟩; have HE5 := Lib.hid (HE.out A2 c2 w5 h5); have HG5 := Lib.hid h6; clear h2 h4 h5 h6)
    | (go_at_call 59; (with_reducible refine HE5.out.mono ?_); rintro o w6 ⟨rfl, rfl⟩))
  have hbx5 : w5.heap[w.heap.size + 1]? = some (.cells #[.string ⟨#[]⟩, .slice none 0 0, .slice none 0 0, .slice none 0 0] 27 (0, 0)) := (HG5.out.block _ (by have := HW.out.2.2; omega) (fun e => by injection e; omega)).trans HW.out.2.1
  have HX5 := Lib.hid hbx5
  clear hbx5
  go_wp2_with (go_at_call 60; (with_reducible refine (HNW.out _).mono ?_); rintro o w7 ⟨rfl, hb7⟩; have hbx7 := (hb7.block _ (by have := HG5.out.size; have := HW.out.2.2; omega)).trans HX5.out; have r0 := cell_of_row _ _ 0 _ _ _ hbx7; have r1 := cell_of_row _ _ 1 _ _ _ hbx7; have r2 := cell_of_row _ _ 2 _ _ _ hbx7; have r3 := cell_of_row _ _ 3 _ _ _ hbx7; have g0 := frozen_of_row _ _ 0 _ _ hbx7; have g1 := frozen_of_row _ _ 1 _ _ hbx7; have g2 := frozen_of_row _ _ 2 _ _ hbx7; have g3 := frozen_of_row _ _ 3 _ _ hbx7; have HB7 := Lib.hid hb7; clear hb7 hbx7)
  refine bodyPost_ret (v := .tuple #[.agg #[.string n, .slice none 0 0, .slice none 0 0, .slice none 0 0], .int .i64 0]) (by simp [results, Tryz.results20, go_sem, r0, r1, r2, r3]) rfl ?_
  refine ⟨none, 0, 0, none, 0, 0, none, 0, 0, rfl, rfl, rfl, rfl, WalM.nil_, ?_⟩
  have hl : w.heap.size ≤ w.heap.size + 1 := Nat.le_succ _
  exact gb_set_new (gb_set_new (gb_set_new (gb_set_new (((gb_below HW.out.1).trans HG5.out).trans (gb_below HB7.out)) hl) hl) hl) hl
/-- Whether two lists are alike, element by element. -/
def eqN : List ByteArray → List ByteArray → Bool
  | [], [] => true
  | x :: a, y :: b => (x.toList == y.toList) && eqN a b
  | _, _ => false
theorem eqN_len : ∀ {a b : List ByteArray}, a.length ≠ b.length → eqN a b = false
  | [], [], h => absurd rfl h
  | [], y :: b, _ => rfl
  | x :: a, [], _ => rfl
  | x :: a, y :: b, h => by rw [eqN, eqN_len (a := a) (b := b) (by simpa using h), Bool.and_false]
/-- The two rows as the loop finds them. -/
structure EqA (w : World) (S : Nat → Prop) (A B : Option Addr) (a b : List ByteArray) (wr : World) : Prop where
  l : RowC wr S A a.length (cellsN a)
  r : RowC wr S B b.length (cellsN b)
  bel : Below w.heap.size w wr
theorem row_at {w : World} {S : Nat → Prop} {A : Option Addr} {a : List ByteArray} (h : RowC w S A a.length (cellsN a)) {k : Nat} {y : ByteArray} (hy : a[k]? = some y) : ∃ g off, A = some ⟨g, off, none⟩ ∧ w.cell? ⟨g, off + k, none⟩ = some (.string y) := by
  obtain ⟨g, off, e, hs, hc⟩ := h (Nat.lt_of_le_of_lt (Nat.zero_le _) (List.getElem?_eq_some_iff.1 hy).1)
  exact ⟨g, off, e, hc k (.string y) (by unfold cellsN; rw [List.getElem?_map, hy]; rfl)⟩
theorem slices_EqualN (a b : List ByteArray) (A B : Option Addr) (n m ca cb : Nat) (S : Nat → Prop) (w : World) (hn : a.length = n) (hm : b.length = m) (hmx : n ≤ 100000) (ha : RowC w S A n (cellsN a)) (hb : RowC w S B m (cellsN b)) (hS : ∀ g, S g → g < w.heap.size) :
    Calls Tryz.prog 128 #[.slice A n ca, .slice B m cb] w fun e w' => e = .returned (.bool (eqN a b)) ∧ Below w.heap.size w w' := by
  by_cases hne : n = m
  · subst hne
    have h0 : EqA w S A B a b w := ⟨by rw [hn]; exact ha, by rw [hm]; exact hb, Below.refl _ _⟩
    have H0 := Lib.hid h0
    obtain ⟨R, hR⟩ : ∃ R, eqN a b = R := ⟨_, rfl⟩
    have HR : Hid (eqN (a.drop 0) (b.drop 0) = R) := Lib.hid hR
    rw [hR]
    have HL := Lib.hid (And.intro hn (And.intro hm hS))
    clear ha hb hS h0 hn hm hR
    go_enter Tryz.func128, Tryz.ntmps128
    go_wp2_with fail
    go_loopw [13] (fun v wr => ∃ k : Nat, k ≤ n ∧ v = .int .i64 k ∧ eqN (a.drop k) (b.drop k) = R ∧ EqA w S A B a b wr) (fun v _ => n - (intOf v).toNat)
    case atStart => exact ⟨0, Nat.zero_le _, rfl, HR.out, H0.out⟩
    case round =>
      obtain ⟨k, hk, rfl, hx, hf⟩ := hrel
      have HX := Lib.hid hx
      have HF := Lib.hid hf
      clear hx hf
      by_cases hlt : k < n
      · obtain ⟨x, hx⟩ : ∃ u, a[k]? = some u := ⟨a[k]'(by rw [HL.out.1]; exact hlt), List.getElem?_eq_getElem _⟩
        obtain ⟨y, hy⟩ : ∃ u, b[k]? = some u := ⟨b[k]'(by rw [HL.out.2.1]; exact hlt), List.getElem?_eq_getElem _⟩
        obtain ⟨g, off, rfl, y0⟩ := row_at HF.out.l hx
        obtain ⟨g2, off2, rfl, y1⟩ := row_at HF.out.r hy
        have hda : a.drop k = x :: a.drop (k + 1) := by rw [List.drop_eq_getElem_cons (List.getElem?_eq_some_iff.1 hx).1, (List.getElem?_eq_some_iff.1 hx).2]
        have hdb : b.drop k = y :: b.drop (k + 1) := by rw [List.drop_eq_getElem_cons (List.getElem?_eq_some_iff.1 hy).1, (List.getElem?_eq_some_iff.1 hy).2]
        have hxx := HX.out
        rw [hda, hdb, eqN] at hxx
        have HLT := Lib.hid hlt
        have hil : (k : Int) < (n : Int) := by omega
        clear hx hy hda hdb hlt
        cases he : (x.toList == y.toList)
        · have HE := Lib.hid (by rw [he, Bool.false_and] at hxx; exact hxx : false = R)
          clear hxx
          go_upto_region 6 with fail
          go_quiet ((fail))
          go_wp2_with fail
          refine bodyPost_ret (v := .bool false) (by simp [results, Tryz.results128, go_sem]) rfl ?_
          exact ⟨by rw [← HE.out], HF.out.bel.trans (below_drewN (Below.refl _ _) _)⟩
        · have HE := Lib.hid (by rw [he, Bool.true_and] at hxx; exact hxx : eqN (a.drop (k + 1)) (b.drop (k + 1)) = R)
          clear hxx
          go_upto_region 6 with fail
          go_quiet ((fail))
          go_wp2_with fail
          go_roundw
          case rel =>
            exact ⟨k + 1, HLT.out, by go_num, HE.out, HF.out.l, HF.out.r, below_drewN HF.out.bel _⟩
          case measure => have := HLT.out; simp only [intOf]; omega
      · obtain rfl : n = k := by omega
        go_wp2_with fail
        refine bodyPost_ret (v := .bool true) (by simp [results, Tryz.results128, go_sem]) rfl ?_
        have hxx := HX.out
        rw [List.drop_of_length_le (by rw [HL.out.1]; exact Nat.le_refl _), List.drop_of_length_le (by rw [HL.out.2.1]; exact Nat.le_refl _)] at hxx
        exact ⟨by rw [← hxx]; rfl, HF.out.bel⟩
  · have d1 : decide (n = m) = false := decide_eq_false hne
    have d2 : ((n : Int) != (m : Int)) = true := by simp; omega
    rw [eqN_len (by omega)]
    go_enter Tryz.func128, Tryz.ntmps128
    go_wp2_with fail
    refine bodyPost_ret (v := .bool false) (by simp [results, Tryz.results128, go_sem]) rfl ?_
    exact ⟨rfl, Below.refl _ _⟩
/-- Whether two credentials are the same. -/
def sameH (x y : Hz) : Bool := x.iss.toList == y.iss.toList && (x.sch.toList == y.sch.toList && (x.ver == y.ver && ((x.a.toList == y.a.toList && (x.e.toList == y.e.toList && x.v.toList == y.v.toList)) && eqN x.att y.att)))
def valC (x : Hz) (A : Option Addr) (n c : Nat) : Value := .agg #[.string x.iss, .string x.sch, .int .i64 x.ver, .slice A n c, .string x.a, .string x.e, .string x.v]
theorem wal_same (x y : Hz) (A B : Option Addr) (n m ca cb : Nat) (S : Nat → Prop) (w : World) (hn : x.att.length = n) (hm : y.att.length = m) (hmx : n ≤ 100000) (ha : RowC w S A n (cellsN x.att)) (hb : RowC w S B m (cellsN y.att)) (hS : ∀ g, S g → g < w.heap.size) :
    Calls Tryz.prog 101 #[valC x A n ca, valC y B m cb] w fun e w' => e = .returned (.bool (sameH x y)) ∧ Below w.heap.size w w' := by
  unfold valC
  have HE := Lib.hid (fun W (hbl : Below w.heap.size w W) => slices_EqualN x.att y.att A B n m ca cb S W hn hm hmx (ha.keep (fun p hp => hbl.cell (hS _ hp))) (hb.keep (fun p hp => hbl.cell (hS _ hp))) (fun g hg => Nat.lt_of_lt_of_le (hS g hg) hbl.size))
  have HB0 : Hid (Below w.heap.size w ((w.alloc (.cells #[.string x.iss, .string x.sch, .int .i64 x.ver, .slice A n ca, .string x.a, .string x.e, .string x.v] 45)).alloc (.cells #[.string y.iss, .string y.sch, .int .i64 y.ver, .slice B m cb, .string y.a, .string y.e, .string y.v] 45))) := Lib.hid (((Below.refl _ _).alloc (Nat.le_refl _) _).alloc (by simp) _)
  clear ha hb hS
  obtain ⟨b1, h1⟩ : ∃ b, (x.iss.toList == y.iss.toList) = b := ⟨_, rfl⟩
  obtain ⟨b2, h2⟩ : ∃ b, (x.sch.toList == y.sch.toList) = b := ⟨_, rfl⟩
  obtain ⟨b3, h3⟩ : ∃ b, (x.ver == y.ver) = b := ⟨_, rfl⟩
  obtain ⟨b4, h4⟩ : ∃ b, (x.a.toList == y.a.toList) = b := ⟨_, rfl⟩
  obtain ⟨b5, h5⟩ : ∃ b, (x.e.toList == y.e.toList) = b := ⟨_, rfl⟩
  obtain ⟨b6, h6⟩ : ∃ b, (x.v.toList == y.v.toList) = b := ⟨_, rfl⟩
  unfold sameH
  rw [h1, h2, h3, h4, h5, h6]
  go_enter Tryz.func101, Tryz.ntmps101
  cases b1
  · go_wp2_with fail
    refine bodyPost_ret (v := .bool false) (by simp [results, Tryz.results101, go_sem]) rfl ?_
    exact ⟨rfl, HB0.out⟩
  · cases b2
    · go_wp2_with fail
      refine bodyPost_ret (v := .bool false) (by simp [results, Tryz.results101, go_sem]) rfl ?_
      exact ⟨rfl, HB0.out⟩
    · cases b3
      · go_wp2_with fail
        refine bodyPost_ret (v := .bool false) (by simp [results, Tryz.results101, go_sem]) rfl ?_
        exact ⟨rfl, HB0.out⟩
      · cases b4
        · go_wp2_with fail
          refine bodyPost_ret (v := .bool false) (by simp [results, Tryz.results101, go_sem]) rfl ?_
          exact ⟨rfl, HB0.out⟩
        · cases b5
          · go_wp2_with fail
            refine bodyPost_ret (v := .bool false) (by simp [results, Tryz.results101, go_sem]) rfl ?_
            exact ⟨rfl, HB0.out⟩
          · cases b6
            · go_wp2_with fail
              refine bodyPost_ret (v := .bool false) (by simp [results, Tryz.results101, go_sem]) rfl ?_
              exact ⟨rfl, HB0.out⟩
            · go_wp2_with (go_at_call 128; (with_reducible refine (HE.out _ HB0.out).mono ?_); rintro o w5 ⟨rfl, hb5⟩; have HB5 := Lib.hid hb5; clear hb5)
              refine bodyPost_ret (v := .bool (eqN x.att y.att)) (by simp [results, Tryz.results101, go_sem]) rfl ?_
              exact ⟨by simp, below2 HB0.out HB5.out⟩
end Go.Proofs.YtjhlddlocpkhkaaGreat
