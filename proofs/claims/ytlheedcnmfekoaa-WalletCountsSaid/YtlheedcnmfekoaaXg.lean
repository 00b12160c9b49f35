/- Wallet: use, for every wallet of less than 4096 counts. -/
import Derived.Test.YtlheedcnmfekoaaXf
import Derived.Test.YtlheedcnmfekoaaWu
namespace Go.Proofs.Ytlheedcnmfekoaa
open Go.RowKit
set_option maxRecDepth 100000
set_option linter.unusedVariables false
set_option maxHeartbeats 8000000

theorem reads_new (w : World) (cs : List Value) (T : TypeId) (k : Nat) (hk : cs.length = 1 * k) : Reads (w.alloc (.cells cs.toArray T)) (w.alloc (.cells cs.toArray T)).heap.size k (some ⟨w.heap.size, 0, none⟩) 1 cs := ⟨hk, fun _ => ⟨_, rfl, by simp, fun j u hu => by
  rw [addr_add, Nat.zero_add]
  rw [cell_of_row _ _ j _ _ _ (heap_alloc_new w _), ← hu]
  simp⟩⟩
theorem UsB.far {w wx w' : World} {sec : ByteArray} {Aa : Option Addr} {na ca : Nat} {Ah : Option Addr} {nh ch : Nat} {Au : Option Addr} {nu cu : Nat} {s : ByteArray} {p c : Int} (h : UsB w sec Aa na ca Ah nh ch Au nu cu s p c wx) (hb : Below (w.heap.size + 3) wx w') : UsB w sec Aa na ca Ah nh ch Au nu cu s p c w' :=
  ⟨(hb.block _ (by omega)).trans h.box, (hb.block _ (by omega)).trans h.arg, (hb.block _ (by omega)).trans h.res, h.bel.trans (hb.mono (Nat.le_add_right _ 3)), Nat.le_trans h.size hb.size⟩
theorem UsB.put3 {w wx : World} {sec : ByteArray} {Aa : Option Addr} {na ca : Nat} {Ah : Option Addr} {nh ch : Nat} {Au : Option Addr} {nu cu : Nat} {s : ByteArray} {p c : Int} {A3' : Option Addr} {n3' c3' : Nat} (h : UsB w sec Aa na ca Ah nh ch Au nu cu s p c wx) : UsB w sec Aa na ca Ah nh ch A3' n3' c3' s p c (wx.setCell ⟨w.heap.size, 3, none⟩ (.slice A3' n3' c3')) :=
  ⟨heap_setCell_same wx w.heap.size 3 _ _ _ h.box, (heap_setCell_other _ _ _ _ (show w.heap.size + 1 ≠ w.heap.size by omega)).trans h.arg, (heap_setCell_other _ _ _ _ (show w.heap.size + 1 + 1 ≠ w.heap.size by omega)).trans h.res, h.bel.setCell (p := ⟨w.heap.size, 3, none⟩) (Nat.le_refl _) _, by simpa using h.size⟩
/-- The end: the box's last cell, then the result. -/
theorem OwnW.fin {w wx : World} {sec : ByteArray} {Aa : Option Addr} {na ca : Nat} {Ah : Option Addr} {nh ch : Nat} {Au : Option Addr} {nu cu : Nat} {s : ByteArray} {p c : Int} {qs : List Az} {hs : List Hz} {us : List Uz} {A1 A2 A3 : Option Addr} {n1 n2 n3 c1 c2 c3 : Nat} (h : UsB w sec Aa na ca Ah nh ch Au nu cu s p c wx) (o : OwnW wx (w.heap.size + 3) qs hs us (.slice A1 n1 c1) (.slice A2 n2 c2) (.slice A3 n3 c3)) (h1 : qs.length = n1) (h2 : hs.length = n2) (h3 : us.length = n3) (v0 v1 v2 v3 : Value) :
    WalM ((((wx.setCell ⟨w.heap.size + 1 + 1, 0, none⟩ v0).setCell ⟨w.heap.size + 1 + 1, 1, none⟩ v1).setCell ⟨w.heap.size + 1 + 1, 2, none⟩ v2).setCell ⟨w.heap.size + 1 + 1, 3, none⟩ v3) (fun g => w.heap.size ≤ g ∧ g < ((((wx.setCell ⟨w.heap.size + 1 + 1, 0, none⟩ v0).setCell ⟨w.heap.size + 1 + 1, 1, none⟩ v1).setCell ⟨w.heap.size + 1 + 1, 2, none⟩ v2).setCell ⟨w.heap.size + 1 + 1, 3, none⟩ v3).heap.size) qs hs us A1 A2 A3 ∧
    Below w.heap.size w ((((wx.setCell ⟨w.heap.size + 1 + 1, 0, none⟩ v0).setCell ⟨w.heap.size + 1 + 1, 1, none⟩ v1).setCell ⟨w.heap.size + 1 + 1, 2, none⟩ v2).setCell ⟨w.heap.size + 1 + 1, 3, none⟩ v3) := by
  subst h1 h2 h3
  have hl : w.heap.size ≤ w.heap.size + 1 + 1 := by omega
  refine ⟨?_, (((h.bel.setCell (p := ⟨w.heap.size + 1 + 1, 0, none⟩) hl _).setCell (p := ⟨w.heap.size + 1 + 1, 1, none⟩) hl _).setCell (p := ⟨w.heap.size + 1 + 1, 2, none⟩) hl _).setCell (p := ⟨w.heap.size + 1 + 1, 3, none⟩) hl _⟩
  have o' := ((((o.set (a := ⟨w.heap.size + 1 + 1, 0, none⟩) (by simp) v0).set (a := ⟨w.heap.size + 1 + 1, 1, none⟩) (by simp) v1).set (a := ⟨w.heap.size + 1 + 1, 2, none⟩) (by simp) v2).set (a := ⟨w.heap.size + 1 + 1, 3, none⟩) (by simp) v3)
  exact o'.form.mono fun g hg => ⟨by have := hg.1; omega, hg.2⟩
theorem wal_use (sec : ByteArray) (qs : List Az) (hs : List Hz) (us : List Uz) (Aa Ah Au : Option Addr) (na ca nh ch nu cu : Nat) (s : ByteArray) (p c : Int) (S : Nat → Prop) (w : World) (hq : qs.length = na) (hn : hs.length = nh) (hu : us.length = nu) (hma : na ≤ 100000) (hmh : nh ≤ 100000) (hmu : nu < 4096) (hatt : ∀ x ∈ hs, x.att.length ≤ 100000) (h : WalM w S qs hs us Aa Ah Au) (hS : ∀ g, S g → g < w.heap.size) :
    Calls Try.prog 15 #[.agg #[.string sec, .slice Aa na ca, .slice Ah nh ch, .slice Au nu cu], .agg #[.string s, .int .i64 p, .int .i64 c]] w fun e w' => ∃ A1 c1 A2 c2 A3 n3 c3, e = .returned (.tuple #[.agg #[.string sec, .slice A1 na c1, .slice A2 nh c2, .slice A3 n3 c3], .int .i64 0]) ∧ n3 = (putU (s, p, c) us).length ∧ WalM w' (fun g => w.heap.size ≤ g ∧ g < w'.heap.size) qs hs (putU (s, p, c) us) A1 A2 A3 ∧ Below w.heap.size w w' := by
  have HF := Lib.hid (fun W (hb : Below w.heap.size w W) => wal_find us Au nu cu S sec Aa Ah na ca nh ch s p W hu (by omega) (by have := (h.keep (fun q hq => hb.cell (hS _ hq))).u; exact this) (fun g hg => Nat.lt_of_lt_of_le (hS g hg) hb.size))
  have HC := Lib.hid (fun W (hb : Below w.heap.size w W) => wal_copied sec qs hs us Aa Ah Au na ca nh ch nu cu S W hq hn hu hma hmh (by omega) hatt (h.keep (fun q hq => hb.cell (hS _ hq))) (fun g hg => Nat.lt_of_lt_of_le (hS g hg) hb.size))
  have HB0 := Lib.hid (UsB.start (w := w) (sec := sec) (Aa := Aa) (na := na) (ca := ca) (Ah := Ah) (nh := nh) (ch := ch) (Au := Au) (nu := nu) (cu := cu) (s := s) (p := p) (c := c))
  have HQ := Lib.hid (And.intro hq (And.intro hn hu))
  have HMU := Lib.hid hmu
  clear h hS hq hn hatt hma hmh hmu
  cases hf : us.find? (isU s p) with
  | none =>
    have HP := Lib.hid (putU_none (u := (s, p, c)) hf)
    rw [idxU_none hf 0] at HF
    clear hf hu
    have k4 : (4096 ≤ (nu : Int)) = False := by have := HMU.out; simp; omega
    go_enter Try.func15, Try.ntmps15
    go_upto_region 4 with (go_at_call 37; (with_reducible refine (HF.out _ HB0.out.bel).mono ?_); rintro e w1 ⟨rfl, hb1⟩; have HB1 := Lib.hid (HB0.out.next hb1); obtain ⟨⟨x0, x1, x2, x3⟩, y0, y1, y2, y3⟩ := HB1.out.bc; obtain ⟨z0, z1, z2⟩ := HB1.out.ac; clear hb1)
    go_upto_region 5 with (go_at_call 38; (with_reducible refine (HC.out _ HB1.out.bel).mono ?_); rintro e w2 ⟨A1, c1, A2, c2, A3, c3, rfl, how, hb2⟩; have HB2 := Lib.hid (HB1.out.next hb2); have HO2 := Lib.hid how; obtain ⟨⟨x0, x1, x2, x3⟩, y0, y1, y2, y3⟩ := HB2.out.bc; clear how hb2)
    have HB3 := Lib.hid (HB2.out.put (A1 := A1) (n1 := na) (c1 := c1) (A2 := A2) (n2 := nh) (c2 := c2) (A3 := A3) (n3 := nu) (c3 := c3) sec)
    have HO3 : Hid (OwnW ((((w2.setCell ⟨w.heap.size, 0, none⟩ (.string sec)).setCell ⟨w.heap.size, 1, none⟩ (.slice A1 na c1)).setCell ⟨w.heap.size, 2, none⟩ (.slice A2 nh c2)).setCell ⟨w.heap.size, 3, none⟩ (.slice A3 nu c3)) (w.heap.size + 3) qs hs us (.slice A1 na c1) (.slice A2 nh c2) (.slice A3 nu c3)) := Lib.hid ((((((HO2.out.mono HB1.out.size).set (a := ⟨w.heap.size, 0, none⟩) (by simp) _).set (a := ⟨w.heap.size, 1, none⟩) (by simp) _).set (a := ⟨w.heap.size, 2, none⟩) (by simp) _).set (a := ⟨w.heap.size, 3, none⟩) (by simp) _))
    clear x0 x1 x2 x3 y0 y1 y2 y3 z0 z1 z2
    obtain ⟨w3, hw3⟩ : ∃ w3, ((((w2.setCell ⟨w.heap.size, 0, none⟩ (.string sec)).setCell ⟨w.heap.size, 1, none⟩ (.slice A1 na c1)).setCell ⟨w.heap.size, 2, none⟩ (.slice A2 nh c2)).setCell ⟨w.heap.size, 3, none⟩ (.slice A3 nu c3)) = w3 := ⟨_, rfl⟩
    rw [hw3] at HB3 HO3 ⊢
    clear hw3
    obtain ⟨⟨x0, x1, x2, x3⟩, y0, y1, y2, y3⟩ := HB3.out.bc
    obtain ⟨z0, z1, z2⟩ := HB3.out.ac
    go_upto_region 6 with fail
    obtain ⟨i, hi, hz, hs1, hb1⟩ := infoE_U
    have HONE : Hid (∀ u ∈ [Value.string s, .int .i64 p, .int .i64 c], u.oneCell' = true) := Lib.hid (cellsU_one [(s, p, c)])
    have HRN := Lib.hid (reads_new w3 [.string s, .int .i64 p, .int .i64 c] 56 3 rfl)
    have HOA := Lib.hid (HO3.out.next ((Below.refl _ w3).alloc (Nat.le_refl _) (.cells #[.string s, .int .i64 p, .int .i64 c] 56)))
    have HBA := Lib.hid (HB3.out.next ((Below.refl _ w3).alloc (Nat.le_refl _) (.cells #[.string s, .int .i64 p, .int .i64 c] 56)))
    go_wp2_with (at_builtin; go_loud (refine wpList_append_any _ rfl _ _ 26 rfl (w.heap.size + 3) 56 i (.agg #[.string ByteArray.empty, .int .i64 0, .int .i64 0]) 3 32 Try.underlying26 hi hz hs1 hb1 rfl (by decide) (.slice A3 nu c3) nu (cellsU us) rfl (by have := HOA.out.u; rw [HQ.out.2.2] at this; exact this) _ (some ⟨w3.heap.size, 0, none⟩) 1 _ [.string s, .int .i64 p, .int .i64 c] rfl HRN.out HONE.out (by have := HMU.out; unfold maxLen; omega) (by have := HMU.out; omega) (by have := HB3.out.size; simp; omega) ?_))
    intro v' w4 hown hgrow hv
    obtain ⟨A4, c4, rfl⟩ := owns_shape hown
    have hb4 : Below (w.heap.size + 3) (w3.alloc (.cells #[.string s, .int .i64 p, .int .i64 c] 56)) w4 := below_grown hgrow (by have := HB3.out.size; simp; omega) (fun g hg => (HOA.out.u.lt g hg).1)
    have HB4 := Lib.hid (HBA.out.far hb4)
    have ho4 : OwnW w4 (w.heap.size + 3) qs hs (us ++ [(s, p, c)]) (.slice A1 na c1) (.slice A2 nh c2) (.slice A4 (nu + 1) c4) := HOA.out.appU (by rw [cellsU_app, List.length_append, HQ.out.2.2]; exact hown) hgrow (by simpa using hv)
    have HO4 := Lib.hid ho4
    obtain ⟨⟨x0, x1, x2, x3⟩, y0, y1, y2, y3⟩ := HB4.out.bc
    clear hown hgrow hv hb4 ho4
    go_upto_region 8 with fail
    have HB5 := Lib.hid (HB4.out.put3 (A3' := A4) (n3' := nu + 1) (c3' := c4))
    have HO5 := Lib.hid (HO4.out.set (a := ⟨w.heap.size, 3, none⟩) (by simp) (.slice A4 (nu + 1) c4))
    clear x0 x1 x2 x3 y0 y1 y2 y3 z0 z1 z2
    obtain ⟨w5, hw5⟩ : ∃ w5, w4.setCell ⟨w.heap.size, 3, none⟩ (.slice A4 (nu + 1) c4) = w5 := ⟨_, rfl⟩
    rw [hw5] at HB5 HO5 ⊢
    clear hw5
    obtain ⟨⟨x0, x1, x2, x3⟩, y0, y1, y2, y3⟩ := HB5.out.bc
    obtain ⟨⟨r0, r1, r2, r3⟩, g0, g1, g2, g3⟩ := HB5.out.rc
    go_wp2_with fail
    have HF := OwnW.fin HB5.out HO5.out HQ.out.1 HQ.out.2.1 (by rw [List.length_append, HQ.out.2.2]; rfl) (.string sec) (.slice A1 na c1) (.slice A2 nh c2) (.slice A4 (nu + 1) c4)
    refine bodyPost_ret (v := .tuple #[.agg #[.string sec, .slice A1 na c1, .slice A2 nh c2, .slice A4 (nu + 1) c4], .int .i64 0]) (by simp [results, Try.results15, go_sem, r0, r1, r2, r3]) rfl ?_
    exact ⟨A1, c1, A2, c2, A4, nu + 1, c4, rfl, by rw [HP.out, List.length_append, HQ.out.2.2]; rfl, by rw [HP.out]; exact HF.1, HF.2⟩
  | some x =>
    obtain ⟨i, hi1, hin, hput⟩ := putU_some (u := (s, p, c)) hf 0
    rw [Nat.zero_add] at hi1
    have HP := Lib.hid hput
    rw [hi1] at HF
    have hil : (i : Int) < (nu : Int) := by rw [← hu]; omega
    have hil2 : i < nu := by rw [← hu]; exact hin
    have HIL := Lib.hid hil2
    have HIN := Lib.hid hin
    clear hf hu hi1 hput hin
    go_enter Try.func15, Try.ntmps15
    go_upto_region 4 with (go_at_call 37; (with_reducible refine (HF.out _ HB0.out.bel).mono ?_); rintro e w1 ⟨rfl, hb1⟩; have HB1 := Lib.hid (HB0.out.next hb1); obtain ⟨⟨x0, x1, x2, x3⟩, y0, y1, y2, y3⟩ := HB1.out.bc; obtain ⟨z0, z1, z2⟩ := HB1.out.ac; clear hb1)
    go_upto_region 5 with (go_at_call 38; (with_reducible refine (HC.out _ HB1.out.bel).mono ?_); rintro e w2 ⟨A1, c1, A2, c2, A3, c3, rfl, how, hb2⟩; have HB2 := Lib.hid (HB1.out.next hb2); have HO2 := Lib.hid how; obtain ⟨⟨x0, x1, x2, x3⟩, y0, y1, y2, y3⟩ := HB2.out.bc; clear how hb2)
    have HB3 := Lib.hid (HB2.out.put (A1 := A1) (n1 := na) (c1 := c1) (A2 := A2) (n2 := nh) (c2 := c2) (A3 := A3) (n3 := nu) (c3 := c3) sec)
    have HO3 : Hid (OwnW ((((w2.setCell ⟨w.heap.size, 0, none⟩ (.string sec)).setCell ⟨w.heap.size, 1, none⟩ (.slice A1 na c1)).setCell ⟨w.heap.size, 2, none⟩ (.slice A2 nh c2)).setCell ⟨w.heap.size, 3, none⟩ (.slice A3 nu c3)) (w.heap.size + 3) qs hs us (.slice A1 na c1) (.slice A2 nh c2) (.slice A3 nu c3)) := Lib.hid ((((((HO2.out.mono HB1.out.size).set (a := ⟨w.heap.size, 0, none⟩) (by simp) _).set (a := ⟨w.heap.size, 1, none⟩) (by simp) _).set (a := ⟨w.heap.size, 2, none⟩) (by simp) _).set (a := ⟨w.heap.size, 3, none⟩) (by simp) _))
    clear x0 x1 x2 x3 y0 y1 y2 y3 z0 z1 z2
    obtain ⟨w3, hw3⟩ : ∃ w3, ((((w2.setCell ⟨w.heap.size, 0, none⟩ (.string sec)).setCell ⟨w.heap.size, 1, none⟩ (.slice A1 na c1)).setCell ⟨w.heap.size, 2, none⟩ (.slice A2 nh c2)).setCell ⟨w.heap.size, 3, none⟩ (.slice A3 nu c3)) = w3 := ⟨_, rfl⟩
    rw [hw3] at HB3 HO3 ⊢
    clear hw3
    obtain ⟨⟨x0, x1, x2, x3⟩, y0, y1, y2, y3⟩ := HB3.out.bc
    obtain ⟨z0, z1, z2⟩ := HB3.out.ac
    obtain ⟨g3, rfl⟩ : ∃ g3, A3 = some ⟨g3, 0, none⟩ := by
      rcases HO3.out.u.2 with ⟨_, h0⟩ | ⟨g, cap, cur, hv, _⟩
      · have := HIN.out; omega
      · injection hv with h1; exact ⟨g, h1⟩
    have hu3 := HO3.out.u
    rw [HQ.out.2.2] at hu3
    have hl3 := cellsU_len us
    have k0 : w3.cell? ⟨g3, i * 3, none⟩ = some ((cellsU us)[i * 3]'(by have := HIN.out; omega)) := (hu3.cellAt (i * 3) (by omega)).trans (List.getElem?_eq_getElem _)
    have k1 : w3.cell? ⟨g3, i * 3 + 1, none⟩ = some ((cellsU us)[i * 3 + 1]'(by have := HIN.out; omega)) := (hu3.cellAt (i * 3 + 1) (by omega)).trans (List.getElem?_eq_getElem _)
    have k2 : w3.cell? ⟨g3, i * 3 + 2, none⟩ = some ((cellsU us)[i * 3 + 2]'(by have := HIN.out; omega)) := (hu3.cellAt (i * 3 + 2) (by omega)).trans (List.getElem?_eq_getElem _)
    have f0 := hu3.frozenAt (i * 3)
    have f1 := hu3.frozenAt (i * 3 + 1)
    have f2 := hu3.frozenAt (i * 3 + 2)
    obtain ⟨u0, hu0⟩ : ∃ u, (cellsU us)[i * 3]'(by have := HIN.out; omega) = u := ⟨_, rfl⟩
    obtain ⟨u1, hu1⟩ : ∃ u, (cellsU us)[i * 3 + 1]'(by have := HIN.out; omega) = u := ⟨_, rfl⟩
    obtain ⟨u2, hu2⟩ : ∃ u, (cellsU us)[i * 3 + 2]'(by have := HIN.out; omega) = u := ⟨_, rfl⟩
    rw [hu0] at k0
    rw [hu1] at k1
    rw [hu2] at k2
    have HB5 : Hid (UsB w sec A1 na c1 A2 nh c2 (some ⟨g3, 0, none⟩) nu c3 s p c (((w3.setCell ⟨g3, i * 3, none⟩ (.string s)).setCell ⟨g3, i * 3 + 1, none⟩ (.int .i64 p)).setCell ⟨g3, i * 3 + 2, none⟩ (.int .i64 c))) := Lib.hid (HB3.out.far ((((Below.refl _ w3).setCell (p := ⟨g3, i * 3, none⟩) (hu3.lt g3 rfl).1 _).setCell (p := ⟨g3, i * 3 + 1, none⟩) (hu3.lt g3 rfl).1 _).setCell (p := ⟨g3, i * 3 + 2, none⟩) (hu3.lt g3 rfl).1 _))
    have HO5 := Lib.hid (HO3.out.setU HQ.out.2.2 HIN.out s p c)
    clear hu3 hl3 hu0 hu1 hu2
    go_upto_region 8 with fail
    clear x0 x1 x2 x3 y0 y1 y2 y3 z0 z1 z2 f0 f1 f2 k0 k1 k2
    obtain ⟨w5, hw5⟩ : ∃ w5, (((w3.setCell ⟨g3, i * 3, none⟩ (.string s)).setCell ⟨g3, i * 3 + 1, none⟩ (.int .i64 p)).setCell ⟨g3, i * 3 + 2, none⟩ (.int .i64 c)) = w5 := ⟨_, rfl⟩
    rw [hw5] at HB5 HO5 ⊢
    clear hw5
    obtain ⟨⟨x0, x1, x2, x3⟩, y0, y1, y2, y3⟩ := HB5.out.bc
    obtain ⟨⟨r0, r1, r2, r3⟩, g0, g1, g2, g4⟩ := HB5.out.rc
    go_wp2_with fail
    have HF := OwnW.fin HB5.out HO5.out HQ.out.1 HQ.out.2.1 (by rw [List.length_set]; exact HQ.out.2.2) (.string sec) (.slice A1 na c1) (.slice A2 nh c2) (.slice (some ⟨g3, 0, none⟩) nu c3)
    refine bodyPost_ret (v := .tuple #[.agg #[.string sec, .slice A1 na c1, .slice A2 nh c2, .slice (some ⟨g3, 0, none⟩) nu c3], .int .i64 0]) (by simp [results, Try.results15, go_sem, r0, r1, r2, r3]) rfl ?_
    exact ⟨A1, c1, A2, c2, some ⟨g3, 0, none⟩, nu, c3, rfl, by rw [HP.out, List.length_set, HQ.out.2.2], by rw [HP.out]; exact HF.1, HF.2⟩

end Go.Proofs.Ytlheedcnmfekoaa
