/- integer.Of in general; wallet.whole. -/
import Derived.Test.YtjhlddlocpkhkaaGreatWhWo
namespace Go.Proofs.YtjhlddlocpkhkaaGreat
open Go.RowKit
set_option maxRecDepth 100000
set_option linter.unusedVariables false
set_option maxHeartbeats 4000000
theorem integer_OfZ (z : Int) (w : World) (hlo : -9223372036854775808 ≤ z) (hhi : z ≤ 9223372036854775807) :
    Calls Tryz.prog 115 #[.int .i64 z] w fun e w' => e = .returned (.agg #[.bool (decide (z < 0)), .string (B z.natAbs)]) ∧ Below w.heap.size w w' := by
  by_cases h : z < 0
  · obtain ⟨U, hU⟩ : ∃ U, U = z + 18446744073709551616 := ⟨_, rfl⟩
    have hcv : IntKind.u64.wrap z = U := by rw [IntKind.wrap_u64]; omega
    have hng : IntKind.u64.wrap (-U) = (z.natAbs : Int) := by rw [IntKind.wrap_u64]; omega
    have hng2 : IntKind.u64.wrap (0 - U) = (z.natAbs : Int) := by rw [IntKind.wrap_u64]; omega
    obtain ⟨m, hm⟩ : ∃ m, z.natAbs = m := ⟨_, rfl⟩
    have hm0 : 0 < m := by omega
    have hm1 : m < 18446744073709551616 := by omega
    have he : (B m).toList.isEmpty = false := B_isEmpty_false (Nat.pos_iff_ne_zero.1 hm0)
    rw [hm] at hng hng2
    rw [hm, decide_eq_true h]
    have k1 : decide (z < 0) = true := decide_eq_true h
    have HM := Lib.hid (fun W => natural_Of' (m : Int) m W rfl hm1)
    clear hU hm hm0 hm1
    go_enter Tryz.func115, Tryz.ntmps115
    go_wp2_with (first | (go_at_call 125; (with_reducible refine (HM.out _).mono ?_); rintro e w1 ⟨rfl, hb1⟩; have hcw1 := (bcell hb1).1; have hfw1 := (bcell hb1).2; have hs1 := hb1.size; have hq1 : w.heap.size < w1.heap.size := by { simp at hs1; omega }) | (go_at_call 132; (with_reducible refine (integer_made _ _ _).mono ?_); rintro e w2 ⟨rfl, hb2⟩; have hcw2 := (bcell hb2).1; have hfw2 := (bcell hb2).2; have hs2 := hb2.size; have hq2 : w.heap.size < w2.heap.size := by { omega }))
    exact bodyPost_ret (v := .agg #[.bool true, .string (B m)]) (by simp [results, Tryz.results115, go_sem, hcw2, hcw1, hq1]) rfl ⟨rfl, ((below2 (below2 ((Below.refl _ _).alloc (Nat.le_refl _) _) hb1) hb2).setCell (by simp) _).setCell (by simp) _⟩
  · obtain ⟨m, hm⟩ : ∃ m, z.natAbs = m := ⟨_, rfl⟩
    obtain rfl : z = (m : Int) := by omega
    have hm1 : m < 18446744073709551616 := by omega
    rw [hm, decide_eq_false h]
    have hcv : IntKind.u64.wrap (m : Int) = (m : Int) := by rw [IntKind.wrap_u64]; omega
    have HM := Lib.hid (fun W => natural_Of' (m : Int) m W rfl hm1)
    clear hm hm1
    go_enter Tryz.func115, Tryz.ntmps115
    go_wp2_with (first | (go_at_call 125; (with_reducible refine (HM.out _).mono ?_); rintro e w1 ⟨rfl, hb1⟩; have hcw1 := (bcell hb1).1; have hfw1 := (bcell hb1).2; have hs1 := hb1.size; have hq1 : w.heap.size < w1.heap.size := by { simp at hs1; omega }) | (go_at_call 132; (with_reducible refine (integer_made _ _ _).mono ?_); rintro e w2 ⟨rfl, hb2⟩; have hcw2 := (bcell hb2).1; have hfw2 := (bcell hb2).2; have hs2 := hb2.size; have hq2 : w.heap.size < w2.heap.size := by { omega }))
    exact bodyPost_ret (v := .agg #[.bool false, .string (B m)]) (by simp [results, Tryz.results115, go_sem, hcw2, hcw1, hq1]) rfl ⟨rfl, ((below2 (below2 ((Below.refl _ _).alloc (Nat.le_refl _) _) hb1) hb2).setCell (by simp) _).setCell (by simp) _⟩
/-- A result's box takes an item. -/
theorem ItOut.store4 {w w1 w5 : World} {y : Its.One} {A : Option Addr} {c b : Nat} (hsl : SlI w5 (fun g => w1.heap.size ≤ g ∧ g < w5.heap.size) A y.2.2.2) (hb : Below w.heap.size w w5) (h0 : w.heap.size ≤ b) (h1 : b < w1.heap.size) :
    ItOut y w (.returned (.agg #[.int .i64 y.1, .string y.2.1, .string y.2.2.1, .slice A y.2.2.2.len c])) ((((w5.setCell ⟨b, 0, none⟩ (.int .i64 y.1)).setCell ⟨b, 1, none⟩ (.string y.2.1)).setCell ⟨b, 2, none⟩ (.string y.2.2.1)).setCell ⟨b, 3, none⟩ (.slice A y.2.2.2.len c)) := by
  refine ⟨A, c, rfl, ?_, ?_⟩
  · refine (hsl.set4 (b := b) (fun g hg => by have := hg.1; omega) _ _ _ _).mono ?_
    intro g hg
    simp only [World.size_setCell]
    exact ⟨by have := hg.1; omega, hg.2⟩
  · exact (((hb.setCell (p := ⟨b, 0, none⟩) h0 _).setCell (p := ⟨b, 1, none⟩) h0 _).setCell (p := ⟨b, 2, none⟩) h0 _).setCell (p := ⟨b, 3, none⟩) h0 _
theorem wal_whole (z : Int) (w : World) (hlo : -9223372036854775808 ≤ z) (hhi : z ≤ 9223372036854775807) :
    Calls Tryz.prog 80 #[.int .i64 z] w (ItOut (2, ⟨#[]⟩, ⟨#[]⟩, .cons 0 (if decide (z < 0) then B 1 else ⟨#[]⟩) ⟨#[]⟩ .nil (.cons 0 (B z.natAbs) ⟨#[]⟩ .nil .nil)) w) := by
  have HO := Lib.hid (fun W => integer_OfZ z W hlo hhi)
  have HI := Lib.hid enc_Int
  have hlt0 : w.heap.size < (w.alloc (.cells #[.int .i64 0, .string ⟨#[]⟩, .string ⟨#[]⟩, .slice none 0 0] 63)).heap.size := by simp
  have HR := Lib.hid (And.intro (heap_alloc_new w (.cells #[.int .i64 0, .string ⟨#[]⟩, .string ⟨#[]⟩, .slice none 0 0] 63)) (And.intro hlt0 ((Below.refl w.heap.size w).alloc (Nat.le_refl _) (.cells #[.int .i64 0, .string ⟨#[]⟩, .string ⟨#[]⟩, .slice none 0 0] 63))))
  clear hlt0 hlo hhi
  obtain ⟨b, hb⟩ : ∃ b, decide (z < 0) = b := ⟨_, rfl⟩
  obtain ⟨m, hm⟩ : ∃ m, z.natAbs = m := ⟨_, rfl⟩
  rw [hb, hm] at HO
  rw [hb, hm]
  clear hb hm
  obtain ⟨l, hl⟩ : ∃ l, l = Its.cons 0 (if b then B 1 else ⟨#[]⟩) ⟨#[]⟩ .nil (.cons 0 (B m) ⟨#[]⟩ .nil .nil) := ⟨_, rfl⟩
  have hll : l.len = 2 := by rw [hl]; rfl
  have HII := Lib.hid (fun W => HI.out b (B m) W)
  rw [← hl] at HII ⊢
  have HLL := Lib.hid hll
  clear hl HI hll
  go_enter Tryz.func80, Tryz.ntmps80
  go_wp2_with (first
    | (go_at_call 115; (with_reducible refine (HO.out _).mono ?_); rintro e w1 ⟨rfl, hb1⟩)
    | (go_at_call 114; (with_reducible refine (HII.out _).mono ?_); rintro e w5 ⟨A5, c5, rfl, hsl5, hb5⟩; have hz1 := Nat.lt_of_lt_of_le HR.out.2.1 hb1.size; have hz5 := Nat.lt_of_lt_of_le hz1 hb5.size; have hres := (hb5.block _ hz1).trans ((hb1.block _ HR.out.2.1).trans HR.out.1); have g0 := frozen_of_row w5 _ 0 _ _ hres; have g1 := frozen_of_row w5 _ 1 _ _ hres; have g2 := frozen_of_row w5 _ 2 _ _ hres; have g3 := frozen_of_row w5 _ 3 _ _ hres; have r0 := cell_of_row w5 _ 0 _ _ _ hres; have r1 := cell_of_row w5 _ 1 _ _ _ hres; have r2 := cell_of_row w5 _ 2 _ _ _ hres; have r3 := cell_of_row w5 _ 3 _ _ _ hres; have HEND := Lib.hid (ItOut.store4 (c := c5) hsl5 (below2 (below2 HR.out.2.2 hb1) hb5) (Nat.le_refl _) hz1); rw [HLL.out] at HEND; dsimp only at HEND; rw [HLL.out]; clear hres hsl5 hz1 hz5 hb5))
  refine bodyPost_ret (v := .agg #[.int .i64 2, .string ⟨#[]⟩, .string ⟨#[]⟩, .slice A5 2 c5]) (by simp [results, Tryz.results80, go_sem, r0, r1, r2, r3]) rfl ?_
  exact HEND.out
end Go.Proofs.YtjhlddlocpkhkaaGreat
