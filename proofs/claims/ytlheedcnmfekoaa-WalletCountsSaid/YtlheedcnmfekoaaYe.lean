/- Encoding: Decode where it reads. -/
import Derived.Test.YtlheedcnmfekoaaYd
namespace Go.Proofs.Ytlheedcnmfekoaa
open Go.RowKit
set_option maxRecDepth 100000
set_option linter.unusedVariables false
set_option maxHeartbeats 8000000

theorem decS_inv {s : ByteArray} {y : Its.One} (h : decS s = .ok y) : s.size ≤ 65536 ∧ rdO 0 s.data.toList = .ok (y, []) := by
  unfold decS textMax at h
  split at h
  · cases h
  · rename_i h1
    refine ⟨by omega, ?_⟩
    cases hr : rdO 0 s.data.toList with
    | err e => rw [hr] at h; cases h
    | ok x =>
      obtain ⟨y', r⟩ := x
      rw [hr] at h
      dsimp only at h
      split at h
      · rename_i h2
        injection h with h
        rw [h, h2]
      · cases h
theorem enc_Decode (s : ByteArray) (y : Its.One) (w : World) (h : decS s = .ok y) :
    Calls Try.prog 25 #[.string s] w (fun o w' => ∃ A c, o = .returned (.tuple #[.agg #[.int .i64 y.1, .string y.2.1, .string y.2.2.1, .slice A y.2.2.2.len c], .int .i64 0]) ∧ y.2.2.2.len ≤ c ∧ SlK w' (fun g => w.heap.size ≤ g ∧ g < w'.heap.size) A y.2.2.2 ∧ Below w.heap.size w w') := by
  obtain ⟨hs, hr⟩ := decS_inv h
  have HR := Lib.hid (fun W => enc_Read s y [] W hs hr)
  obtain ⟨yk, yn, yt, yl⟩ := y
  dsimp only
  have hb0 : Below w.heap.size w (w.alloc (.cells #[.int .i64 0, .string ⟨#[]⟩, .string ⟨#[]⟩, .slice none 0 0] 69)) := (Below.refl _ _).alloc (Nat.le_refl _) _
  have HB0 := Lib.hid (And.intro hb0 (heap_alloc_new w (.cells #[.int .i64 0, .string ⟨#[]⟩, .string ⟨#[]⟩, .slice none 0 0] 69)))
  clear h hs hr hb0
  go_enter Try.func25, Try.ntmps25
  go_upto_region 2 with (go_at_call 49; (with_reducible refine (HR.out _).mono ?_); rintro o w5 ⟨A5, c5, a3, rfl, hr5, ha5, hc5, hsl5, hb5⟩; dsimp only at hsl5 hc5; have HCC := Lib.hid hc5; have HSL := Lib.hid hsl5; have HP := Lib.hid (And.intro hr5 ha5); have HB := Lib.hid hb5; clear hsl5 hr5 ha5 hc5 hb5)
  have ha : a3 = s.size := by
    have h1 := congrArg List.length HP.out.1
    rw [seg_len (Nat.le_refl _)] at h1
    have := HP.out.2
    simp at h1
    omega
  subst ha
  have hz5 : w.heap.size + 1 ≤ w5.heap.size := by have := HB.out.size; simpa using this
  have hres : (w5.alloc (.cells #[.int .i64 yk, .string yn, .string yt, .slice A5 yl.len c5] 69)).heap[w.heap.size]? = some (.cells #[.int .i64 0, .string ⟨#[]⟩, .string ⟨#[]⟩, .slice none 0 0] 69 (0, 0)) := (Below.heap_alloc _ _ _ (by omega)).trans ((HB.out.block _ (by simp)).trans HB0.out.2)
  have hbox := heap_alloc_new w5 (.cells #[.int .i64 yk, .string yn, .string yt, .slice A5 yl.len c5] 69)
  have hbel : Below w.heap.size w (w5.alloc (.cells #[.int .i64 yk, .string yn, .string yt, .slice A5 yl.len c5] 69)) := (HB0.out.1.trans (HB.out.mono (by simp))).alloc (by omega) _
  have hsl : SlK (w5.alloc (.cells #[.int .i64 yk, .string yn, .string yt, .slice A5 yl.len c5] 69)) (fun g => w.heap.size + 1 ≤ g ∧ g < w5.heap.size) A5 yl := (HSL.out.keep (fun p hp => World.cell?_alloc_lt w5 _ p hp.2)).mono (fun g hg => ⟨by have := hg.1; simpa using this, hg.2⟩)
  have HW := Lib.hid (And.intro hbel hsl)
  have hsz6 : (w5.alloc (.cells #[.int .i64 yk, .string yn, .string yt, .slice A5 yl.len c5] 69)).heap.size = w5.heap.size + 1 := by simp
  have HZ6 := Lib.hid hsz6
  have x0 := cell_of_row _ _ 0 _ _ _ hbox
  have x1 := cell_of_row _ _ 1 _ _ _ hbox
  have x2 := cell_of_row _ _ 2 _ _ _ hbox
  have x3 := cell_of_row _ _ 3 _ _ _ hbox
  have r0 := cell_of_row _ _ 0 _ _ _ hres
  have r1 := cell_of_row _ _ 1 _ _ _ hres
  have r2 := cell_of_row _ _ 2 _ _ _ hres
  have r3 := cell_of_row _ _ 3 _ _ _ hres
  have g0 := frozen_of_row _ _ 0 _ _ hres
  have g1 := frozen_of_row _ _ 1 _ _ hres
  have g2 := frozen_of_row _ _ 2 _ _ hres
  have g3 := frozen_of_row _ _ 3 _ _ hres
  clear hres hbox hbel hsl hsz6
  obtain ⟨w6, hw6⟩ : ∃ w6, w5.alloc (.cells #[.int .i64 yk, .string yn, .string yt, .slice A5 yl.len c5] 69) = w6 := ⟨_, rfl⟩
  rw [hw6] at x0 x1 x2 x3 r0 r1 r2 r3 g0 g1 g2 g3 HW HZ6 ⊢
  clear hw6
  go_wp2_with fail
  have hcell : ∀ (p : Addr), p.block ≠ w.heap.size → ∀ (W : World) (i : Nat) (u : Value), (W.setCell ⟨w.heap.size, i, none⟩ u).cell? p = W.cell? p := fun p hp W i u => World.cell?_setCell_other _ _ _ _ (fun e => hp (by have := congrArg Addr.block e; first | exact this | exact this.symm))
  refine bodyPost_ret (v := .tuple #[.agg #[.int .i64 yk, .string yn, .string yt, .slice A5 yl.len c5], .int .i64 0]) (by simp [results, Try.results25, go_sem, r0, r1, r2, r3]) rfl ?_
  refine ⟨A5, c5, rfl, HCC.out, (HW.out.2.keep fun p hp => ?_).mono fun g hg => ⟨by have := hg.1; omega, ?_⟩, (((HW.out.1.setCell (p := ⟨w.heap.size, 0, none⟩) (Nat.le_refl _) _).setCell (p := ⟨w.heap.size, 1, none⟩) (Nat.le_refl _) _).setCell (p := ⟨w.heap.size, 2, none⟩) (Nat.le_refl _) _).setCell (p := ⟨w.heap.size, 3, none⟩) (Nat.le_refl _) _⟩
  · have hne : p.block ≠ w.heap.size := by have := hp.1; omega
    rw [hcell p hne, hcell p hne, hcell p hne, hcell p hne]
  · have h1 := HZ6.out
    simp
    have := hg.2
    omega

end Go.Proofs.Ytlheedcnmfekoaa
