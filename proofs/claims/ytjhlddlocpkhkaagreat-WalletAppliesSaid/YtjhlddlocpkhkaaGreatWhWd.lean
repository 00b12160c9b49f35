/- Encoding: copied, List: a list of items is copied into new memory. -/
import Derived.Test.YtjhlddlocpkhkaaGreatWhJ00
namespace Go.Proofs.YtjhlddlocpkhkaaGreat
open Go.RowKit
set_option maxRecDepth 100000
set_option linter.unusedVariables false
set_option maxHeartbeats 4000000
/-- The end of a copy: the new item is laid into the result. -/
theorem ItOut.close {w wr : World} {S : Nat → Prop} {y : Its.One} {A A2 : Option Addr} {l d : Its} {n2 c2 br bo : Nat} {v3 : Value} (h : CpAt w S y.1 y.2.1 y.2.2.1 A l (.slice A2 n2 c2) d br bo wr) (hd : d = y.2.2.2) (hl : d.len = n2 → True) (e3 : v3 = .slice A2 n2 c2) :
    ItOut y w (.returned (.agg #[.int .i64 y.1, .string y.2.1, .string y.2.2.1, .slice A2 n2 c2])) ((((wr.setCell ⟨br, 0, none⟩ (.int .i64 y.1)).setCell ⟨br, 1, none⟩ (.string y.2.1)).setCell ⟨br, 2, none⟩ (.string y.2.2.1)).setCell ⟨br, 3, none⟩ (.slice A2 n2 c2)) := by
  obtain ⟨A9, c9, e9, hs9⟩ := h.own.form
  injection e9 with e1 e2 e4
  subst e1 e2 e4 hd
  have hlo := h.lo
  have hlt := h.lt
  have hcell : ∀ (W : World) (i : Nat) (u : Value) (p : Addr), p.block ≠ br → (W.setCell ⟨br, i, none⟩ u).cell? p = W.cell? p := fun W i u p hp => World.cell?_setCell_other _ _ _ _ (fun e => hp (by have := congrArg Addr.block e; first | exact this | exact this.symm))
  refine ⟨A2, c2, rfl, (hs9.keep fun p hp => ?_).mono fun g hg => ⟨by omega, by simp only [World.size_setCell]; exact hg.2⟩, ?_⟩
  · have hne : p.block ≠ br := by have := hp.1; omega
    rw [hcell _ _ _ _ hne, hcell _ _ _ _ hne, hcell _ _ _ _ hne, hcell _ _ _ _ hne]
  · exact (((h.bel.setCell (p := ⟨br, 0, none⟩) hlo _).setCell (p := ⟨br, 1, none⟩) hlo _).setCell (p := ⟨br, 2, none⟩) hlo _).setCell (p := ⟨br, 3, none⟩) hlo _
theorem copied_any (N : Nat) : ∀ (y : Its.One) (A : Option Addr) (c : Nat) (S : Nat → Prop) (w : World), y.2.2.2.size ≤ N → N ≤ 100000 → SlI w S A y.2.2.2 → (∀ g, S g → g < w.heap.size) → Calls Tryz.prog 131 #[valI y A c] w (ItOut y w) := by
  induction N using Nat.strongRecOn with
  | ind N ih =>
  intro y A c S w hsz hN hsl hS
  obtain ⟨k, n, t, l⟩ := y
  have HIH := Lib.hid ih
  have HSL := Lib.hid hsl
  have HS := Lib.hid hS
  have HSZ := Lib.hid hsz
  have HLEN := Lib.hid (show l.len ≤ 100000 from Nat.le_trans (Its.len_size l) (Nat.le_trans hsz hN))
  have hl6 : l.len ≤ 100000 := HLEN.out
  clear ih hsl hS hsz
  unfold valI
  dsimp only
  go_enter Tryz.func131, Tryz.ntmps131
  go_wp2_with fail
  have hcp0 := CpAt.start (w := w) (S := S) (k := k) (n := n) (t := t) (A := A) (l := l) (W1 := w.alloc (.cells #[.int .i64 k, .string n, .string t, .slice A l.len c] 63)) ((Below.refl _ _).alloc (Nat.le_refl _) _) HSL.out HS.out
  simp only [World.size_alloc] at hcp0
  have HCP0 := Lib.hid hcp0
  clear hcp0
  go_loopw [16] (fun v wr => ∃ (i : Nat) (A2 : Option Addr) (n2 c2 : Nat), v = .int .i64 i ∧ i ≤ l.len ∧ CpAt w S k n t A l (.slice A2 n2 c2) (l.take i) (w.heap.size + 1) (w.heap.size + 1 + 1) wr) (fun v _ => l.len - (intOf v).toNat)
  case atStart => exact ⟨0, none, 0, 0, rfl, Nat.zero_le _, by rw [Its.take_zero]; exact HCP0.out⟩
  case round =>
    obtain ⟨i, A2, n2, c2, rfl, hi, hcp⟩ := hrel
    have HCP := Lib.hid hcp
    have hz := hcp.size
    have hout := hcp.out
    have x3 := cell_of_row wr _ 3 _ _ _ hout
    clear hcp
    by_cases hlt : i < l.len
    · obtain ⟨y, hy⟩ := Its.get_lt hlt
      obtain ⟨g, off, A', c', rfl, hsg, y0, y1, y2, y3, hsl'⟩ := HCP.out.src.at_ hy
      have hys := Its.get_size hy
      have HTK := Lib.hid (Its.take_succ hy)
      have HLT := Lib.hid hlt
      have hil : (i : Int) < (l.len : Int) := by omega
      obtain ⟨yk, yn, yt, yl⟩ := y
      dsimp only at y0 y1 y2 y3 hys hsl'
      obtain ⟨W1, hW1⟩ : ∃ W1, wr.alloc (.cells #[.int .i64 yk, .string yn, .string yt, .slice A' yl.len c'] 63) = W1 := ⟨_, rfl⟩
      have hbw : Below wr.heap.size wr W1 := by rw [← hW1]; exact (Below.refl _ _).alloc (Nat.le_refl _) _
      have HIC := Lib.hid (fun W (hb : Below wr.heap.size wr W) => HIH.out yl.size (by have := HSZ.out; omega) (yk, yn, yt, yl) A' c' S W (Nat.le_refl _) (by have := HSZ.out; omega) (hsl'.below hb (fun g hg => Nat.lt_of_lt_of_le (HS.out g hg) HCP.out.bel.size)) (fun g hg => Nat.lt_of_lt_of_le (HS.out g hg) (Nat.le_trans HCP.out.bel.size hb.size)))
      unfold valI at HIC
      dsimp only at HIC
      have HC1 := Lib.hid (HIC.out _ hbw)
      have HC2 := Lib.hid (HIC.out _ hbw.drew)
      have HBW := Lib.hid hbw
      rw [← hW1] at HC1 HC2 HBW
      clear hsg hsl' hys hy hbw hW1 hlt HIC
      go_wp2_with fail
      have HTL := Lib.hid (show (l.take i).len ≤ 100000 from by rw [Its.len_take l hi]; omega)
      have hx5 : wr.heap.size ≠ w.heap.size + 1 + 1 := by omega
      have hx6 : w.heap.size + 1 + 1 < wr.heap.size := hz
      go_region_law (first
        | (go_simp; go_at_call 131; (first | (with_reducible refine HC1.out.mono ?_) | (with_reducible refine HC2.out.mono ?_)); rintro e w5 ⟨A5, c5, rfl, hsl5, hb5⟩; have hcp5 : CpAt w S k n t (some ⟨g, off, none⟩) l (.slice A2 n2 c2) (l.take i) (w.heap.size + 1) (w.heap.size + 1 + 1) w5 := (by first | exact (HCP.out.alloc HS.out _).next HS.out hb5 | exact ((HCP.out.alloc HS.out _).drew HS.out).next HS.out hb5); have hap := fresh_apart (y := (yk, yn, yt, yl)) HCP.out (by simp) hsl5 (.cells #[.int .i64 yk, .string yn, .string yt, .slice A5 yl.len c5] 63); have z3 := cell_of_row w5 _ 3 _ _ _ hcp5.out; have hz5 := hcp5.size; have HAP := Lib.hid hap; have HBK := Lib.hid (heap_alloc_new w5 (.cells #[.int .i64 yk, .string yn, .string yt, .slice A5 yl.len c5] 63)); have HCQ := Lib.hid (hcp5.alloc HS.out (.cells #[.int .i64 yk, .string yn, .string yt, .slice A5 yl.len c5] 63)); clear hsl5 hb5 hcp5 hap)
        | (refine step_append_I rfl (.tmp 21) (.tmp 24) rfl (w.heap.size + 1 + 1 + 1) (.slice A2 n2 c2) (l.take i) (by simp [Act.eval]) HCQ.out.own (yk, yn, yt, yl) A5 c5 w5.heap.size 1 (by simp [Act.eval]) HBK.out HAP.out HTL.out HCQ.out.size ?_; intro v6 w6 hown6 hg6; have hd6 : w6.heap[w.heap.size + 1 + 1]? = some (.cells #[.int .i64 k, .string n, .string t, .slice A2 n2 c2] 63 (0, 0)) := HCQ.out.outBlk hg6; have q3 := cell_of_row w6 _ 3 _ _ _ hd6; have f3 := frozen_of_row w6 _ 3 _ _ hd6; obtain ⟨A6, c6, rfl, _⟩ := hown6.form; have HC7 := Lib.hid (HCQ.out.put HS.out hown6 hg6); clear hown6 hg6 hd6))
      all_goals
        go_wp2_with fail
        go_roundw
        case rel => exact ⟨i + 1, A6, _, c6, rfl, HLT.out, by rw [HTK.out]; exact HC7.out⟩
        case measure => have := HLT.out; simp only [intOf]; omega
    · obtain rfl : i = l.len := by omega
      have HTA := Lib.hid (Its.take_all l (Nat.le_refl _))
      have hres := HCP.out.res
      have g0 := frozen_of_row wr _ 0 _ _ hres
      have g1 := frozen_of_row wr _ 1 _ _ hres
      have g2 := frozen_of_row wr _ 2 _ _ hres
      have g3 := frozen_of_row wr _ 3 _ _ hres
      have x0 := cell_of_row wr _ 0 _ _ _ hout
      have x1 := cell_of_row wr _ 1 _ _ _ hout
      have x2 := cell_of_row wr _ 2 _ _ _ hout
      have r0 := cell_of_row wr _ 0 _ _ _ hres
      have r1 := cell_of_row wr _ 1 _ _ _ hres
      have r2 := cell_of_row wr _ 2 _ _ _ hres
      have r3 := cell_of_row wr _ 3 _ _ _ hres
      clear hout hres
      have hend := ItOut.close (y := (k, n, t, l)) (v3 := .slice A2 n2 c2) HCP.out HTA.out (fun _ => trivial) rfl
      go_wp2_with fail
      refine bodyPost_ret (v := .agg #[.int .i64 k, .string n, .string t, .slice A2 n2 c2]) (by simp [results, Tryz.results131, go_sem, r0, r1, r2, r3]) rfl ?_
      exact hend
end Go.Proofs.YtjhlddlocpkhkaaGreat
