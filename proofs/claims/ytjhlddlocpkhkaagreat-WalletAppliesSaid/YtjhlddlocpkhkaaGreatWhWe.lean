/- Encoding: List: a list of items is copied into a new item. -/
import Derived.Test.YtjhlddlocpkhkaaGreatWhWd
namespace Go.Proofs.YtjhlddlocpkhkaaGreat
open Go.RowKit
set_option maxRecDepth 100000
set_option linter.unusedVariables false
set_option maxHeartbeats 4000000
theorem enc_List (l : Its) (A : Option Addr) (c : Nat) (S : Nat → Prop) (w : World) (hsz : l.size ≤ 100000) (hsl : SlI w S A l) (hS : ∀ g, S g → g < w.heap.size) : Calls Tryz.prog 113 #[.slice A l.len c] w (ItOut (2, ⟨#[]⟩, ⟨#[]⟩, l) w) := by
  have HSL := Lib.hid hsl
  have HS := Lib.hid hS
  have HSZ := Lib.hid hsz
  have HLEN := Lib.hid (show l.len ≤ 100000 from Nat.le_trans (Its.len_size l) hsz)
  have hl6 : l.len ≤ 100000 := HLEN.out
  clear hsl hS hsz
  go_enter Tryz.func113, Tryz.ntmps113
  go_wp2_with fail
  have hcp0 := CpAt.start (w := w) (S := S) (k := 2) (n := ⟨#[]⟩) (t := ⟨#[]⟩) (A := A) (l := l) (W1 := w) (Below.refl _ _) HSL.out HS.out
  have HCP0 := Lib.hid hcp0
  clear hcp0
  go_loopw [9] (fun v wr => ∃ (i : Nat) (A2 : Option Addr) (n2 c2 : Nat), v = .int .i64 i ∧ i ≤ l.len ∧ CpAt w S 2 ⟨#[]⟩ ⟨#[]⟩ A l (.slice A2 n2 c2) (l.take i) w.heap.size (w.heap.size + 1) wr) (fun v _ => l.len - (intOf v).toNat)
  case atStart => exact ⟨0, none, 0, 0, rfl, Nat.zero_le _, by rw [Its.take_zero]; exact HCP0.out⟩
  case round =>
    obtain ⟨i, A2, n2, c2, rfl, hi, hcp⟩ := hrel
    have HCP := Lib.hid hcp
    have hz := hcp.size
    have hout := hcp.out
    have x3 := cell_of_row wr _ 3 _ _ _ hout
    clear hcp
    by_cases hlt : i < l.len
    · obtain ⟨y, hy⟩ := Its.get_lt hlt
      obtain ⟨g, off, A', c', rfl, hsg, y0, y1, y2, y3, hsl'⟩ := HCP.out.src.at_ hy
      have hys := Its.get_size hy
      have HTK := Lib.hid (Its.take_succ hy)
      have HLT := Lib.hid hlt
      have hil : (i : Int) < (l.len : Int) := by omega
      obtain ⟨yk, yn, yt, yl⟩ := y
      dsimp only at y0 y1 y2 y3 hys hsl'
      obtain ⟨W1, hW1⟩ : ∃ W1, wr.alloc (.cells #[.int .i64 yk, .string yn, .string yt, .slice A' yl.len c'] 63) = W1 := ⟨_, rfl⟩
      have hbw : Below wr.heap.size wr W1 := by rw [← hW1]; exact (Below.refl _ _).alloc (Nat.le_refl _) _
      have HIC := Lib.hid (fun W (hb : Below wr.heap.size wr W) => copied_any yl.size (yk, yn, yt, yl) A' c' S W (Nat.le_refl _) (by have := HSZ.out; omega) (hsl'.below hb (fun g hg => Nat.lt_of_lt_of_le (HS.out g hg) HCP.out.bel.size)) (fun g hg => Nat.lt_of_lt_of_le (HS.out g hg) (Nat.le_trans HCP.out.bel.size hb.size)))
      unfold valI at HIC
      dsimp only at HIC
      have HC1 := Lib.hid (HIC.out _ hbw)
      have HC2 := Lib.hid (HIC.out _ hbw.drew)
      have HBW := Lib.hid hbw
      rw [← hW1] at HC1 HC2 HBW
      clear hsg hsl' hys hy hbw hW1 hlt HIC
      go_wp2_with fail
      have HTL := Lib.hid (show (l.take i).len ≤ 100000 from by rw [Its.len_take l hi]; omega)
      have hx5 : wr.heap.size ≠ w.heap.size + 1 := by omega
      have hx6 : w.heap.size + 1 < wr.heap.size := hz
      go_region_law (first
        | (go_simp; go_at_call 131; (first | (with_reducible refine HC1.out.mono ?_) | (with_reducible refine HC2.out.mono ?_)); rintro e w5 ⟨A5, c5, rfl, hsl5, hb5⟩; have hcp5 : CpAt w S 2 ⟨#[]⟩ ⟨#[]⟩ (some ⟨g, off, none⟩) l (.slice A2 n2 c2) (l.take i) w.heap.size (w.heap.size + 1) w5 := (by first | exact (HCP.out.alloc HS.out _).next HS.out hb5 | exact ((HCP.out.alloc HS.out _).drew HS.out).next HS.out hb5); have hap := fresh_apart (y := (yk, yn, yt, yl)) HCP.out (by simp) hsl5 (.cells #[.int .i64 yk, .string yn, .string yt, .slice A5 yl.len c5] 63); have z3 := cell_of_row w5 _ 3 _ _ _ hcp5.out; have hz5 := hcp5.size; have HAP := Lib.hid hap; have HBK := Lib.hid (heap_alloc_new w5 (.cells #[.int .i64 yk, .string yn, .string yt, .slice A5 yl.len c5] 63)); have HCQ := Lib.hid (hcp5.alloc HS.out (.cells #[.int .i64 yk, .string yn, .string yt, .slice A5 yl.len c5] 63)); clear hsl5 hb5 hcp5 hap)
        | (refine step_append_I rfl (.tmp 14) (.tmp 17) rfl (w.heap.size + 1 + 1) (.slice A2 n2 c2) (l.take i) (by simp [Act.eval]) HCQ.out.own (yk, yn, yt, yl) A5 c5 w5.heap.size 1 (by simp [Act.eval]) HBK.out HAP.out HTL.out HCQ.out.size ?_; intro v6 w6 hown6 hg6; have hd6 : w6.heap[w.heap.size + 1]? = some (.cells #[.int .i64 2, .string ⟨#[]⟩, .string ⟨#[]⟩, .slice A2 n2 c2] 63 (0, 0)) := HCQ.out.outBlk hg6; have q3 := cell_of_row w6 _ 3 _ _ _ hd6; have f3 := frozen_of_row w6 _ 3 _ _ hd6; obtain ⟨A6, c6, rfl, _⟩ := hown6.form; have HC7 := Lib.hid (HCQ.out.put HS.out hown6 hg6); clear hown6 hg6 hd6))
      all_goals
        go_wp2_with fail
        go_roundw
        case rel => exact ⟨i + 1, A6, _, c6, rfl, HLT.out, by rw [HTK.out]; exact HC7.out⟩
        case measure => have := HLT.out; simp only [intOf]; omega
    · obtain rfl : i = l.len := by omega
      have HTA := Lib.hid (Its.take_all l (Nat.le_refl _))
      have hres := HCP.out.res
      have g0 := frozen_of_row wr _ 0 _ _ hres
      have g1 := frozen_of_row wr _ 1 _ _ hres
      have g2 := frozen_of_row wr _ 2 _ _ hres
      have g3 := frozen_of_row wr _ 3 _ _ hres
      have x0 := cell_of_row wr _ 0 _ _ _ hout
      have x1 := cell_of_row wr _ 1 _ _ _ hout
      have x2 := cell_of_row wr _ 2 _ _ _ hout
      have r0 := cell_of_row wr _ 0 _ _ _ hres
      have r1 := cell_of_row wr _ 1 _ _ _ hres
      have r2 := cell_of_row wr _ 2 _ _ _ hres
      have r3 := cell_of_row wr _ 3 _ _ _ hres
      clear hout hres
      have hend := ItOut.close (y := (2, ⟨#[]⟩, ⟨#[]⟩, l)) (v3 := .slice A2 n2 c2) HCP.out HTA.out (fun _ => trivial) rfl
      go_wp2_with fail
      refine bodyPost_ret (v := .agg #[.int .i64 2, .string ⟨#[]⟩, .string ⟨#[]⟩, .slice A2 n2 c2]) (by simp [results, Tryz.results113, go_sem, r0, r1, r2, r3]) rfl ?_
      exact hend
end Go.Proofs.YtjhlddlocpkhkaaGreat
