/- Wallet: the effect of the entry "secret"; New. Wallet: what an effect keeps: its boxes, the reader, the wallet's rows. Wallet: slices.Equal of numbers; same. -/
import Derived.Test.YtjhlddlocpkhkaaGreatWhJ08
import Derived.Test.YtjhlddlocpkhkaaGreatWhJ06
import Derived.Test.YtjhlddlocpkhkaaGreatWhJ18
import Derived.Test.YtjhlddlocpkhkaaGreatWhJ15
namespace Go.Proofs.YtjhlddlocpkhkaaGreat
open Go.RowKit
set_option maxRecDepth 100000
set_option linter.unusedVariables false
set_option maxHeartbeats 8000000
theorem wal_New (x : ByteArray) (w : World) : Calls Tryz.prog 60 #[.string x] w fun e w' => e = .returned (.agg #[.string x, .slice none 0 0, .slice none 0 0, .slice none 0 0]) ∧ Below w.heap.size w w' := by
  go_enter Tryz.func60, Tryz.ntmps60
  go_wp2_with fail
  refine bodyPost_ret (v := .agg #[.string x, .slice none 0 0, .slice none 0 0, .slice none 0 0]) (by simp [results, Tryz.results60, go_sem]) rfl ?_
  exact ⟨rfl, (Below.refl _ _).alloc (Nat.le_refl _) _⟩
/-- What an effect hands back. -/
def EffGot (w : World) (rb : Nat) (sec : ByteArray) (qs : List Az) (hs : List Hz) (us : List Uz) (o : Ending) (w' : World) : Prop :=
  ∃ A1 n1 c1 A2 n2 c2 A3 n3 c3, o = .returned (.tuple #[.agg #[.string sec, .slice A1 n1 c1, .slice A2 n2 c2, .slice A3 n3 c3], .int .i64 0]) ∧ n1 = qs.length ∧ n2 = hs.length ∧ n3 = us.length ∧ WalM w' (fun g => w.heap.size ≤ g ∧ g < w'.heap.size) qs hs us A1 A2 A3 ∧ w.grownBy w' (some rb)
theorem WalM.nil_ {w : World} {S : Nat → Prop} : WalM w S [] [] [] none none none :=
  ⟨fun h => absurd h (by simp), ⟨[], fun h => absurd h (by simp), rfl⟩, fun h => absurd h (by simp)⟩
theorem wal_secret (sec : ByteArray) (Aa Ah Au : Option Addr) (na ca nh ch nu cu : Nat) (n t : ByteArray) (l : Its) (A : Option Addr) (c rb : Nat) (S : Nat → Prop) (w : World) (hc : 1 ≤ c) (hb : RdI A 1 c rb w) (hsl : SlK w S A (.cons 0 n t l .nil)) (hS : ∀ g, S g → g < w.heap.size ∧ g ≠ rb) :
    Calls Tryz.prog 20 #[.agg #[.string sec, .slice Aa na ca, .slice Ah nh ch, .slice Au nu cu], .pointer (some ⟨rb, 0, none⟩)] w (EffGot w rb n [] [] []) := by
  obtain ⟨W, hW⟩ : ∃ W, ((w.alloc (.cells #[.string sec, .slice Aa na ca, .slice Ah nh ch, .slice Au nu cu] 70)).alloc (.cells #[.string ⟨#[]⟩, .slice none 0 0, .slice none 0 0, .slice none 0 0] 27)) = W := ⟨_, rfl⟩
  have hbw : Below w.heap.size w W := by rw [← hW]; exact ((Below.refl _ _).alloc (Nat.le_refl _) _).alloc (by simp) _
  have hbx := (two_boxes w (.cells #[.string sec, .slice Aa na ca, .slice Ah nh ch, .slice Au nu cu] 70) (.cells #[.string ⟨#[]⟩, .slice none 0 0, .slice none 0 0, .slice none 0 0] 27)).2
  have hsz : W.heap.size = w.heap.size + 2 := by rw [← hW]; simp
  rw [hW] at hbx
  have hlt := hb.lt
  have HN := Lib.hid (wal_nat n t l .nil A 1 c rb S W rfl (by decide) hc (hb.keep hbw) (hsl.below hbw (fun g hg => (hS g hg).1)) (fun g hg => ⟨Nat.lt_of_lt_of_le (hS g hg).1 hbw.size, (hS g hg).2⟩))
  have HE := Lib.hid (fun A c W hb => wal_end A c rb W hb)
  have HNW := Lib.hid (fun W => wal_New n W)
  have HW := Lib.hid (And.intro hbw (And.intro hbx hsz))
  rw [← hW] at HN HW
  clear hb hsl hS hc hbw hbx hsz hW
  go_enter Tryz.func20, Tryz.ntmps20
  go_upto_region 3 with (first
    | (go_at_call 58; (with_reducible refine HN.out.mono ?_); rintro o w5 ⟨A2, c2, rfl, h2, h4, h5, h6⟩; have HE5 := Lib.hid (HE.out A2 c2 w5 h5); have HG5 := Lib.hid h6; clear h2 h4 h5 h6)
    | (go_at_call 59; (with_reducible refine HE5.out.mono ?_); rintro o w6 ⟨rfl, rfl⟩))
  have hbx5 : w5.heap[w.heap.size + 1]? = some (.cells #[.string ⟨#[]⟩, .slice none 0 0, .slice none 0 0, .slice none 0 0] 27 (0, 0)) := (HG5.out.block _ (by have := HW.out.2.2; omega) (fun e => by injection e; omega)).trans HW.out.2.1
  have HX5 := Lib.hid hbx5
  clear hbx5
  go_wp2_with (go_at_call 60; (with_reducible refine (HNW.out _).mono ?_); rintro o w7 ⟨rfl, hb7⟩; have hbx7 := (hb7.block _ (by have := HG5.out.size; have := HW.out.2.2; omega)).trans HX5.out; have r0 := cell_of_row _ _ 0 _ _ _ hbx7; have r1 := cell_of_row _ _ 1 _ _ _ hbx7; have r2 := cell_of_row _ _ 2 _ _ _ hbx7; have r3 := cell_of_row _ _ 3 _ _ _ hbx7; have g0 := frozen_of_row _ _ 0 _ _ hbx7; have g1 := frozen_of_row _ _ 1 _ _ hbx7; have g2 := frozen_of_row _ _ 2 _ _ hbx7; have g3 := frozen_of_row _ _ 3 _ _ hbx7; have HB7 := Lib.hid hb7; clear hb7 hbx7)
  refine bodyPost_ret (v := .tuple #[.agg #[.string n, .slice none 0 0, .slice none 0 0, .slice none 0 0], .int .i64 0]) (by simp [results, Tryz.results20, go_sem, r0, r1, r2, r3]) rfl ?_
  refine ⟨none, 0, 0, none, 0, 0, none, 0, 0, rfl, rfl, rfl, rfl, WalM.nil_, ?_⟩
  have hl : w.heap.size ≤ w.heap.size + 1 := Nat.le_succ _
  exact gb_set_new (gb_set_new (gb_set_new (gb_set_new (((gb_below HW.out.1).trans HG5.out).trans (gb_below HB7.out)) hl) hl) hl) hl
/-- The boxes of an effect. -/
structure EfX (w : World) (rb : Nat) (S S0 : Nat → Prop) (sec : ByteArray) (qs : List Az) (hs : List Hz) (us : List Uz) (Aa : Option Addr) (na ca : Nat) (Ah : Option Addr) (nh ch : Nat) (Au : Option Addr) (nu cu : Nat) (l : Its) (W : World) : Prop where
  st : W.heap[w.heap.size]? = some (.cells #[.string sec, .slice Aa na ca, .slice Ah nh ch, .slice Au nu cu] 70 (0, 0))
  res : W.heap[w.heap.size + 1]? = some (.cells #[.string ⟨#[]⟩, .slice none 0 0, .slice none 0 0, .slice none 0 0] 27 (0, 0))
  gr : w.grownBy W (some rb)
  size : w.heap.size + 2 ≤ W.heap.size
  inn : InI W rb S l
  mem : WalM W S0 qs hs us Aa Ah Au
  rlt : rb < w.heap.size
  own : ∀ g, S g → g < w.heap.size ∧ g ≠ rb
  own0 : ∀ g, S0 g → g < w.heap.size ∧ g ≠ rb
section
variable {w W w' : World} {rb : Nat} {S S0 : Nat → Prop} {sec : ByteArray} {qs : List Az} {hs : List Hz} {us : List Uz} {Aa Ah Au : Option Addr} {na ca nh ch nu cu : Nat} {l l' : Its}
theorem EfX.gb (h : EfX w rb S S0 sec qs hs us Aa na ca Ah nh ch Au nu cu l W) (hg : W.grownBy w' (some rb)) (hi : InI w' rb S l') : EfX w rb S S0 sec qs hs us Aa na ca Ah nh ch Au nu cu l' w' := by
  have h1 := h.size
  have h3 := h.rlt
  exact ⟨(hg.block _ (by omega) (fun e => by injection e; omega)).trans h.st, (hg.block _ (by omega) (fun e => by injection e; omega)).trans h.res, h.gr.trans hg, Nat.le_trans h1 hg.size, hi, h.mem.keep (fun p hp => hg.cell_far p (by have := (h.own0 _ hp).1; omega) (fun e => (h.own0 _ hp).2 (by injection e))), h3, h.own, h.own0⟩
theorem EfX.far (h : EfX w rb S S0 sec qs hs us Aa na ca Ah nh ch Au nu cu l W) : ∀ g, S g → g < W.heap.size ∧ g ≠ rb := fun g hg => ⟨Nat.lt_of_lt_of_le (h.own g hg).1 (by have := h.size; omega), (h.own g hg).2⟩
theorem EfX.lt0 (h : EfX w rb S S0 sec qs hs us Aa na ca Ah nh ch Au nu cu l W) : ∀ g, S0 g → g < W.heap.size := fun g hg => Nat.lt_of_lt_of_le (h.own0 g hg).1 (by have := h.size; omega)
theorem EfX.below (h : EfX w rb S S0 sec qs hs us Aa na ca Ah nh ch Au nu cu l W) (hb : Below W.heap.size W w') : EfX w rb S S0 sec qs hs us Aa na ca Ah nh ch Au nu cu l w' := by
  have h1 := h.size
  have h3 := h.rlt
  exact h.gb (gb_below hb) (h.inn.gb (gb_below (row := none) hb) (fun g hg => ⟨(h.far g hg).1, by simp⟩) (by simp))
theorem EfX.start (hin : InI w rb S l) (hr : rb < w.heap.size) (hS : ∀ g, S g → g < w.heap.size ∧ g ≠ rb) (hm : WalM w S0 qs hs us Aa Ah Au) (hS0 : ∀ g, S0 g → g < w.heap.size ∧ g ≠ rb) :
    EfX w rb S S0 sec qs hs us Aa na ca Ah nh ch Au nu cu l ((w.alloc (.cells #[.string sec, .slice Aa na ca, .slice Ah nh ch, .slice Au nu cu] 70)).alloc (.cells #[.string ⟨#[]⟩, .slice none 0 0, .slice none 0 0, .slice none 0 0] 27)) := by
  have hb : Below w.heap.size w ((w.alloc (.cells #[.string sec, .slice Aa na ca, .slice Ah nh ch, .slice Au nu cu] 70)).alloc (.cells #[.string ⟨#[]⟩, .slice none 0 0, .slice none 0 0, .slice none 0 0] 27)) := ((Below.refl _ _).alloc (Nat.le_refl _) _).alloc (by simp) _
  exact ⟨(two_boxes w _ _).1, (two_boxes w _ _).2, gb_below hb, by simp, hin.gb (gb_below (row := none) hb) (fun g hg => ⟨(hS g hg).1, by simp⟩) (by simp), hm.keep (fun p hp => hb.cell (hS0 _ hp).1), hr, hS, hS0⟩
theorem EfX.cc (h : EfX w rb S S0 sec qs hs us Aa na ca Ah nh ch Au nu cu l W) : (W.cell? ⟨w.heap.size, 0, none⟩ = some (.string sec) ∧ W.cell? ⟨w.heap.size, 1, none⟩ = some (.slice Aa na ca) ∧ W.cell? ⟨w.heap.size, 2, none⟩ = some (.slice Ah nh ch) ∧ W.cell? ⟨w.heap.size, 3, none⟩ = some (.slice Au nu cu)) :=
  ⟨cell_of_row _ _ 0 _ _ _ h.st, cell_of_row _ _ 1 _ _ _ h.st, cell_of_row _ _ 2 _ _ _ h.st, cell_of_row _ _ 3 _ _ _ h.st⟩
theorem EfX.rc (h : EfX w rb S S0 sec qs hs us Aa na ca Ah nh ch Au nu cu l W) : (W.cell? ⟨w.heap.size + 1, 0, none⟩ = some (.string ⟨#[]⟩) ∧ W.cell? ⟨w.heap.size + 1, 1, none⟩ = some (.slice none 0 0) ∧ W.cell? ⟨w.heap.size + 1, 2, none⟩ = some (.slice none 0 0) ∧ W.cell? ⟨w.heap.size + 1, 3, none⟩ = some (.slice none 0 0)) ∧ W.frozen? ⟨w.heap.size + 1, 0, none⟩ = false ∧ W.frozen? ⟨w.heap.size + 1, 1, none⟩ = false ∧ W.frozen? ⟨w.heap.size + 1, 2, none⟩ = false ∧ W.frozen? ⟨w.heap.size + 1, 3, none⟩ = false :=
  ⟨⟨cell_of_row _ _ 0 _ _ _ h.res, cell_of_row _ _ 1 _ _ _ h.res, cell_of_row _ _ 2 _ _ _ h.res, cell_of_row _ _ 3 _ _ _ h.res⟩, frozen_of_row _ _ 0 _ _ h.res, frozen_of_row _ _ 1 _ _ h.res, frozen_of_row _ _ 2 _ _ h.res, frozen_of_row _ _ 3 _ _ h.res⟩
/-- The end: the wallet that the change has made is laid into the result. -/
theorem EfX.fin (h : EfX w rb S S0 sec qs hs us Aa na ca Ah nh ch Au nu cu l W) {sec' : ByteArray} {qs' : List Az} {hs' : List Hz} {us' : List Uz} {A1 A2 A3 : Option Addr} {n1 c1 n2 c2 n3 c3 : Nat} (h1 : n1 = qs'.length) (h2 : n2 = hs'.length) (h3 : n3 = us'.length)
    (hm : WalM w' (fun g => W.heap.size ≤ g ∧ g < w'.heap.size) qs' hs' us' A1 A2 A3) (hb : Below W.heap.size W w') (v0 v1 v2 v3 : Value) :
    EffGot w rb sec' qs' hs' us' (.returned (.tuple #[.agg #[.string sec', .slice A1 n1 c1, .slice A2 n2 c2, .slice A3 n3 c3], .int .i64 0])) ((((w'.setCell ⟨w.heap.size + 1, 0, none⟩ v0).setCell ⟨w.heap.size + 1, 1, none⟩ v1).setCell ⟨w.heap.size + 1, 2, none⟩ v2).setCell ⟨w.heap.size + 1, 3, none⟩ v3) := by
  have hz := h.size
  have hg : w'.grownBy ((((w'.setCell ⟨w.heap.size + 1, 0, none⟩ v0).setCell ⟨w.heap.size + 1, 1, none⟩ v1).setCell ⟨w.heap.size + 1, 2, none⟩ v2).setCell ⟨w.heap.size + 1, 3, none⟩ v3) (some (w.heap.size + 1)) := ((gb_set.trans gb_set).trans gb_set).trans gb_set
  refine ⟨A1, n1, c1, A2, n2, c2, A3, n3, c3, rfl, h1, h2, h3, (hm.keep (fun p hp => hg.cell_far p hp.2 (fun e => by injection e; have := hp.1; omega))).mono (fun g hg' => ⟨by have := hg'.1; omega, Nat.lt_of_lt_of_le hg'.2 hg.size⟩), ?_⟩
  exact gb_new (h.gr.trans (gb_below hb)) hg (fun k e => by injection e; omega)
end
section
variable (w : World) (rb : Nat) (S S0 : Nat → Prop) (sec : ByteArray) (qs : List Az) (hs : List Hz) (us : List Uz) (Aa Ah Au : Option Addr) (na ca nh ch nu cu : Nat)
end
/-- Whether two lists are alike, element by element. -/
def eqN : List ByteArray → List ByteArray → Bool
  | [], [] => true
  | x :: a, y :: b => (x.toList == y.toList) && eqN a b
  | _, _ => false
theorem eqN_len : ∀ {a b : List ByteArray}, a.length ≠ b.length → eqN a b = false
  | [], [], h => absurd rfl h
  | [], y :: b, _ => rfl
  | x :: a, [], _ => rfl
  | x :: a, y :: b, h => by rw [eqN, eqN_len (a := a) (b := b) (by simpa using h), Bool.and_false]
/-- The two rows as the loop finds them. -/
structure EqA (w : World) (S : Nat → Prop) (A B : Option Addr) (a b : List ByteArray) (wr : World) : Prop where
  l : RowC wr S A a.length (cellsN a)
  r : RowC wr S B b.length (cellsN b)
  bel : Below w.heap.size w wr
theorem row_at {w : World} {S : Nat → Prop} {A : Option Addr} {a : List ByteArray} (h : RowC w S A a.length (cellsN a)) {k : Nat} {y : ByteArray} (hy : a[k]? = some y) : ∃ g off, A = some ⟨g, off, none⟩ ∧ w.cell? ⟨g, off + k, none⟩ = some (.string y) := by
  obtain ⟨g, off, e, hs, hc⟩ := h (Nat.lt_of_le_of_lt (Nat.zero_le _) (List.getElem?_eq_some_iff.1 hy).1)
  exact ⟨g, off, e, hc k (.string y) (by unfold cellsN; rw [List.getElem?_map, hy]; rfl)⟩
theorem slices_EqualN (a b : List ByteArray) (A B : Option Addr) (n m ca cb : Nat) (S : Nat → Prop) (w : World) (hn : a.length = n) (hm : b.length = m) (hmx : n ≤ 100000) (ha : RowC w S A n (cellsN a)) (hb : RowC w S B m (cellsN b)) (hS : ∀ g, S g → g < w.heap.size) :
    Calls Tryz.prog 128 #[.slice A n ca, .slice B m cb] w fun e w' => e = .returned (.bool (eqN a b)) ∧ Below w.heap.size w w' := by
  by_cases hne : n = m
  · subst hne
    have h0 : EqA w S A B a b w := ⟨by rw [hn]; exact ha, by rw [hm]; exact hb, Below.refl _ _⟩
    have H0 := Lib.hid h0
    obtain ⟨R, hR⟩ : ∃ R, eqN a b = R := ⟨_, rfl⟩
    have HR : Hid (eqN (a.drop 0) (b.drop 0) = R) := Lib.hid hR
    rw [hR]
    have HL := Lib.hid (And.intro hn (And.intro hm hS))
    clear ha hb hS h0 hn hm hR
    go_enter Tryz.func128, Tryz.ntmps128
    go_wp2_with fail
    go_loopw [13] (fun v wr => ∃ k : Nat, k ≤ n ∧ v = .int .i64 k ∧ eqN (a.drop k) (b.drop k) = R ∧ EqA w S A B a b wr) (fun v _ => n - (intOf v).toNat)
    case atStart => exact ⟨0, Nat.zero_le _, rfl, HR.out, H0.out⟩
    case round =>
      obtain ⟨k, hk, rfl, hx, hf⟩ := hrel
      have HX := Lib.hid hx
      have HF := Lib.hid hf
      clear hx hf
      by_cases hlt : k < n
      · obtain ⟨x, hx⟩ : ∃ u, a[k]? = some u := ⟨a[k]'(by rw [HL.out.1]; exact hlt), List.getElem?_eq_getElem _⟩
        obtain ⟨y, hy⟩ : ∃ u, b[k]? = some u := ⟨b[k]'(by rw [HL.out.2.1]; exact hlt), List.getElem?_eq_getElem _⟩
        obtain ⟨g, off, rfl, y0⟩ := row_at HF.out.l hx
        obtain ⟨g2, off2, rfl, y1⟩ := row_at HF.out.r hy
        have hda : a.drop k = x :: a.drop (k + 1) := by rw [List.drop_eq_getElem_cons (List.getElem?_eq_some_iff.1 hx).1, (List.getElem?_eq_some_iff.1 hx).2]
        have hdb : b.drop k = y :: b.drop (k + 1) := by rw [List.drop_eq_getElem_cons (List.getElem?_eq_some_iff.1 hy).1, (List.getElem?_eq_some_iff.1 hy).2]
        have hxx := HX.out
        rw [hda, hdb, eqN] at hxx
        have HLT := Lib.hid hlt
        have hil : (k : Int) < (n : Int) := by omega
        clear hx hy hda hdb hlt
        cases he : (x.toList == y.toList)
        · have HE := Lib.hid (by rw [he, Bool.false_and] at hxx; exact hxx : false = R)
          clear hxx
          go_upto_region 6 with fail
          go_quiet ((fail))
          go_wp2_with fail
          refine bodyPost_ret (v := .bool false) (by simp [results, Tryz.results128, go_sem]) rfl ?_
          exact ⟨by rw [← HE.out], HF.out.bel.trans (below_drewN (Below.refl _ _) _)⟩
        · have HE := Lib.hid (by rw [he, Bool.true_and] at hxx; exact hxx : eqN (a.drop (k + 1)) (b.drop (k + 1)) = R)
          clear hxx
          go_upto_region 6 with fail
          go_quiet ((fail))
          go_wp2_with fail
          go_roundw
          case rel =>
            exact ⟨k + 1, HLT.out, by go_num, HE.out, HF.out.l, HF.out.r, below_drewN HF.out.bel _⟩
          case measure => have := HLT.out; simp only [intOf]; omega
      · obtain rfl : n = k := by omega
        go_wp2_with fail
        refine bodyPost_ret (v := .bool true) (by simp [results, Tryz.results128, go_sem]) rfl ?_
        have hxx := HX.out
        rw [List.drop_of_length_le (by rw [HL.out.1]; exact Nat.le_refl _), List.drop_of_length_le (by rw [HL.out.2.1]; exact Nat.le_refl _)] at hxx
        exact ⟨by rw [← hxx]; rfl, HF.out.bel⟩
  · have d1 : decide (n = m) = false := decide_eq_false hne
    have d2 : ((n : Int) != (m : Int)) = true := by simp; omega
    rw [eqN_len (by omega)]
    go_enter Tryz.func128, Tryz.ntmps128
    go_wp2_with fail
    refine bodyPost_ret (v := .bool false) (by simp [results, Tryz.results128, go_sem]) rfl ?_
    exact ⟨rfl, Below.refl _ _⟩
/-- Whether two credentials are the same. -/
def sameH (x y : Hz) : Bool := x.iss.toList == y.iss.toList && (x.sch.toList == y.sch.toList && (x.ver == y.ver && ((x.a.toList == y.a.toList && (x.e.toList == y.e.toList && x.v.toList == y.v.toList)) && eqN x.att y.att)))
def valC (x : Hz) (A : Option Addr) (n c : Nat) : Value := .agg #[.string x.iss, .string x.sch, .int .i64 x.ver, .slice A n c, .string x.a, .string x.e, .string x.v]
theorem wal_same (x y : Hz) (A B : Option Addr) (n m ca cb : Nat) (S : Nat → Prop) (w : World) (hn : x.att.length = n) (hm : y.att.length = m) (hmx : n ≤ 100000) (ha : RowC w S A n (cellsN x.att)) (hb : RowC w S B m (cellsN y.att)) (hS : ∀ g, S g → g < w.heap.size) :
    Calls Tryz.prog 101 #[valC x A n ca, valC y B m cb] w fun e w' => e = .returned (.bool (sameH x y)) ∧ Below w.heap.size w w' := by
  unfold valC
  have HE := Lib.hid (fun W (hbl : Below w.heap.size w W) => slices_EqualN x.att y.att A B n m ca cb S W hn hm hmx (ha.keep (fun p hp => hbl.cell (hS _ hp))) (hb.keep (fun p hp => hbl.cell (hS _ hp))) (fun g hg => Nat.lt_of_lt_of_le (hS g hg) hbl.size))
  have HB0 : Hid (Below w.heap.size w ((w.alloc (.cells #[.string x.iss, .string x.sch, .int .i64 x.ver, .slice A n ca, .string x.a, .string x.e, .string x.v] 45)).alloc (.cells #[.string y.iss, .string y.sch, .int .i64 y.ver, .slice B m cb, .string y.a, .string y.e, .string y.v] 45))) := Lib.hid (((Below.refl _ _).alloc (Nat.le_refl _) _).alloc (by simp) _)
  clear ha hb hS
  obtain ⟨b1, h1⟩ : ∃ b, (x.iss.toList == y.iss.toList) = b := ⟨_, rfl⟩
  obtain ⟨b2, h2⟩ : ∃ b, (x.sch.toList == y.sch.toList) = b := ⟨_, rfl⟩
  obtain ⟨b3, h3⟩ : ∃ b, (x.ver == y.ver) = b := ⟨_, rfl⟩
  obtain ⟨b4, h4⟩ : ∃ b, (x.a.toList == y.a.toList) = b := ⟨_, rfl⟩
  obtain ⟨b5, h5⟩ : ∃ b, (x.e.toList == y.e.toList) = b := ⟨_, rfl⟩
  obtain ⟨b6, h6⟩ : ∃ b, (x.v.toList == y.v.toList) = b := ⟨_, rfl⟩
  unfold sameH
  rw [h1, h2, h3, h4, h5, h6]
  go_enter Tryz.func101, Tryz.ntmps101
  cases b1
  · go_wp2_with fail
    refine bodyPost_ret (v := .bool false) (by simp [results, Tryz.results101, go_sem]) rfl ?_
    exact ⟨rfl, HB0.out⟩
  · cases b2
    · go_wp2_with fail
      refine bodyPost_ret (v := .bool false) (by simp [results, Tryz.results101, go_sem]) rfl ?_
      exact ⟨rfl, HB0.out⟩
    · cases b3
      · go_wp2_with fail
        refine bodyPost_ret (v := .bool false) (by simp [results, Tryz.results101, go_sem]) rfl ?_
        exact ⟨rfl, HB0.out⟩
      · cases b4
        · go_wp2_with fail
          refine bodyPost_ret (v := .bool false) (by simp [results, Tryz.results101, go_sem]) rfl ?_
          exact ⟨rfl, HB0.out⟩
        · cases b5
          · go_wp2_with fail
            refine bodyPost_ret (v := .bool false) (by simp [results, Tryz.results101, go_sem]) rfl ?_
            exact ⟨rfl, HB0.out⟩
          · cases b6
            · go_wp2_with fail
              refine bodyPost_ret (v := .bool false) (by simp [results, Tryz.results101, go_sem]) rfl ?_
              exact ⟨rfl, HB0.out⟩
            · go_wp2_with (go_at_call 128; (with_reducible refine (HE.out _ HB0.out).mono ?_); rintro o w5 ⟨rfl, hb5⟩; have HB5 := Lib.hid hb5; clear hb5)
              refine bodyPost_ret (v := .bool (eqN x.att y.att)) (by simp [results, Tryz.results101, go_sem]) rfl ?_
              exact ⟨by simp, below2 HB0.out HB5.out⟩
end Go.Proofs.YtjhlddlocpkhkaaGreat
