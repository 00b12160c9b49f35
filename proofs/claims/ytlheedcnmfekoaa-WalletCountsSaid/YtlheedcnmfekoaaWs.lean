/- wallet.changed. -/
import Derived.Test.YtlheedcnmfekoaaWr
namespace Go.Proofs.Ytlheedcnmfekoaa
open Go.RowKit
set_option maxRecDepth 100000
set_option linter.unusedVariables false
set_option maxHeartbeats 4000000

theorem wal_changed (sec : ByteArray) (Aa Ah Au : Option Addr) (na ca nh ch nu cu : Nat) (name : ByteArray) (l : Its) (A : Option Addr) (c : Nat) (S : Nat → Prop) (w : World) (hsz : l.size ≤ 10000) (hsl : SlI w S A l) (hS : ∀ g, S g → g < w.heap.size) (hel : (encOne (2, ⟨#[]⟩, ⟨#[]⟩, .cons 1 ⟨#[]⟩ name .nil l)).length ≤ 200000000) (hok : (encS (2, ⟨#[]⟩, ⟨#[]⟩, .cons 1 ⟨#[]⟩ name .nil l)).2 = 0) :
    Calls Try.prog 16 #[.agg #[.string sec, .slice Aa na ca, .slice Ah nh ch, .slice Au nu cu], .int .i64 0, .string name, .slice A l.len c] w fun e w' => e = .returned (.tuple #[.agg #[.string sec, .slice Aa na ca, .slice Ah nh ch, .slice Au nu cu], .string (encS (2, ⟨#[]⟩, ⟨#[]⟩, .cons 1 ⟨#[]⟩ name .nil l)).1, .int .i64 0]) ∧ Below w.heap.size w w' := by
  have HE := Lib.hid (fun W (hb : Below w.heap.size w W) => wal_entry name l A c S W hsz (hsl.below hb hS) (fun g hg => Nat.lt_of_lt_of_le (hS g hg) hb.size) hel)
  rw [hok] at HE
  generalize (encS (2, ⟨#[]⟩, ⟨#[]⟩, .cons 1 ⟨#[]⟩ name .nil l)).1 = r at HE ⊢
  clear hsz hsl hS hel hok
  have HB0 := Lib.hid (And.intro (two_boxes w (.cells #[.string sec, .slice Aa na ca, .slice Ah nh ch, .slice Au nu cu] 28) (.cells #[.string ⟨#[]⟩, .slice none 0 0, .slice none 0 0, .slice none 0 0] 28))
    (((Below.refl w.heap.size w).alloc (Nat.le_refl _) (.cells #[.string sec, .slice Aa na ca, .slice Ah nh ch, .slice Au nu cu] 28)).alloc (by simp) (.cells #[.string ⟨#[]⟩, .slice none 0 0, .slice none 0 0, .slice none 0 0] 28)))
  have hsz0 : w.heap.size + 1 < ((w.alloc (.cells #[.string sec, .slice Aa na ca, .slice Ah nh ch, .slice Au nu cu] 28)).alloc (.cells #[.string ⟨#[]⟩, .slice none 0 0, .slice none 0 0, .slice none 0 0] 28)).heap.size := by simp
  have HZ := Lib.hid hsz0
  clear hsz0
  go_enter Try.func16, Try.ntmps16
  go_wp2_with (first
    | (go_at_call 39; (with_reducible refine (HE.out _ HB0.out.2).mono ?_); rintro e w1 ⟨rfl, hb1⟩; have hbx := (hb1.block _ (Nat.lt_of_succ_lt HZ.out)).trans HB0.out.1.1; have hres := (hb1.block _ HZ.out).trans HB0.out.1.2; have HB1 := Lib.hid (below2 HB0.out.2 hb1); have x0 := cell_of_row w1 _ 0 _ _ _ hbx; have x1 := cell_of_row w1 _ 1 _ _ _ hbx; have x2 := cell_of_row w1 _ 2 _ _ _ hbx; have x3 := cell_of_row w1 _ 3 _ _ _ hbx; have r0 := cell_of_row w1 _ 0 _ _ _ hres; have r1 := cell_of_row w1 _ 1 _ _ _ hres; have r2 := cell_of_row w1 _ 2 _ _ _ hres; have r3 := cell_of_row w1 _ 3 _ _ _ hres; have g0 := frozen_of_row w1 _ 0 _ _ hres; have g1 := frozen_of_row w1 _ 1 _ _ hres; have g2 := frozen_of_row w1 _ 2 _ _ hres; have g3 := frozen_of_row w1 _ 3 _ _ hres; clear hb1 hbx hres))
  refine bodyPost_ret (v := .tuple #[.agg #[.string sec, .slice Aa na ca, .slice Ah nh ch, .slice Au nu cu], .string r, .int .i64 0]) (by simp [results, Try.results16, go_sem, r0, r1, r2, r3]) rfl ?_
  exact ⟨rfl, (((HB1.out.setCell (p := ⟨w.heap.size + 1, 0, none⟩) (Nat.le_succ _) _).setCell (p := ⟨w.heap.size + 1, 1, none⟩) (Nat.le_succ _) _).setCell (p := ⟨w.heap.size + 1, 2, none⟩) (Nat.le_succ _) _).setCell (p := ⟨w.heap.size + 1, 3, none⟩) (Nat.le_succ _) _⟩

end Go.Proofs.Ytlheedcnmfekoaa
