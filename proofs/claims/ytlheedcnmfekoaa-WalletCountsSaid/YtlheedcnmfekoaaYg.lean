/- Wallet: the effect of the entry "secret"; New. -/
import Derived.Test.YtlheedcnmfekoaaYf
import Derived.Test.YtlheedcnmfekoaaXc
namespace Go.Proofs.Ytlheedcnmfekoaa
open Go.RowKit
set_option maxRecDepth 100000
set_option linter.unusedVariables false
set_option maxHeartbeats 8000000

theorem wal_New (x : ByteArray) (w : World) : Calls Try.prog 6 #[.string x] w fun e w' => e = .returned (.agg #[.string x, .slice none 0 0, .slice none 0 0, .slice none 0 0]) ∧ Below w.heap.size w w' := by
  go_enter Try.func6, Try.ntmps6
  go_wp2_with fail
  refine bodyPost_ret (v := .agg #[.string x, .slice none 0 0, .slice none 0 0, .slice none 0 0]) (by simp [results, Try.results6, go_sem]) rfl ?_
  exact ⟨rfl, (Below.refl _ _).alloc (Nat.le_refl _) _⟩
/-- What an effect hands back. -/
def EffGot (w : World) (rb : Nat) (sec : ByteArray) (qs : List Az) (hs : List Hz) (us : List Uz) (o : Ending) (w' : World) : Prop :=
  ∃ A1 n1 c1 A2 n2 c2 A3 n3 c3, o = .returned (.tuple #[.agg #[.string sec, .slice A1 n1 c1, .slice A2 n2 c2, .slice A3 n3 c3], .int .i64 0]) ∧ n1 = qs.length ∧ n2 = hs.length ∧ n3 = us.length ∧ WalM w' (fun g => w.heap.size ≤ g ∧ g < w'.heap.size) qs hs us A1 A2 A3 ∧ w.grownBy w' (some rb)
theorem WalM.nil_ {w : World} {S : Nat → Prop} : WalM w S [] [] [] none none none :=
  ⟨fun h => absurd h (by simp), ⟨[], fun h => absurd h (by simp), rfl⟩, fun h => absurd h (by simp)⟩
theorem wal_secret (sec : ByteArray) (Aa Ah Au : Option Addr) (na ca nh ch nu cu : Nat) (n t : ByteArray) (l : Its) (A : Option Addr) (c rb : Nat) (S : Nat → Prop) (w : World) (hc : 1 ≤ c) (hb : RdI A 1 c rb w) (hsl : SlK w S A (.cons 0 n t l .nil)) (hS : ∀ g, S g → g < w.heap.size ∧ g ≠ rb) :
    Calls Try.prog 27 #[.agg #[.string sec, .slice Aa na ca, .slice Ah nh ch, .slice Au nu cu], .pointer (some ⟨rb, 0, none⟩)] w (EffGot w rb n [] [] []) := by
  obtain ⟨W, hW⟩ : ∃ W, ((w.alloc (.cells #[.string sec, .slice Aa na ca, .slice Ah nh ch, .slice Au nu cu] 76)).alloc (.cells #[.string ⟨#[]⟩, .slice none 0 0, .slice none 0 0, .slice none 0 0] 28)) = W := ⟨_, rfl⟩
  have hbw : Below w.heap.size w W := by rw [← hW]; exact ((Below.refl _ _).alloc (Nat.le_refl _) _).alloc (by simp) _
  have hbx := (two_boxes w (.cells #[.string sec, .slice Aa na ca, .slice Ah nh ch, .slice Au nu cu] 76) (.cells #[.string ⟨#[]⟩, .slice none 0 0, .slice none 0 0, .slice none 0 0] 28)).2
  have hsz : W.heap.size = w.heap.size + 2 := by rw [← hW]; simp
  rw [hW] at hbx
  have hlt := hb.lt
  have HN := Lib.hid (wal_nat n t l .nil A 1 c rb S W rfl (by decide) hc (hb.keep hbw) (hsl.below hbw (fun g hg => (hS g hg).1)) (fun g hg => ⟨Nat.lt_of_lt_of_le (hS g hg).1 hbw.size, (hS g hg).2⟩))
  have HE := Lib.hid (fun A c W hb => wal_end A c rb W hb)
  have HNW := Lib.hid (fun W => wal_New n W)
  have HW := Lib.hid (And.intro hbw (And.intro hbx hsz))
  rw [← hW] at HN HW
  clear hb hsl hS hc hbw hbx hsz hW
  go_enter Try.func27, Try.ntmps27
  go_upto_region 3 with (first
    | (go_at_call 50; (with_reducible refine HN.out.mono ?_); rintro o w5 ⟨A2, c2, rfl, h2, h4, h5, h6⟩; have HE5 := Lib.hid (HE.out A2 c2 w5 h5); have HG5 := Lib.hid h6; clear h2 h4 h5 h6)
    | (go_at_call 51; (with_reducible refine HE5.out.mono ?_); rintro o w6 ⟨rfl, rfl⟩))
  have hbx5 : w5.heap[w.heap.size + 1]? = some (.cells #[.string ⟨#[]⟩, .slice none 0 0, .slice none 0 0, .slice none 0 0] 28 (0, 0)) := (HG5.out.block _ (by have := HW.out.2.2; omega) (fun e => by injection e; omega)).trans HW.out.2.1
  have HX5 := Lib.hid hbx5
  clear hbx5
  go_wp2_with (go_at_call 6; (with_reducible refine (HNW.out _).mono ?_); rintro o w7 ⟨rfl, hb7⟩; have hbx7 := (hb7.block _ (by have := HG5.out.size; have := HW.out.2.2; omega)).trans HX5.out; have r0 := cell_of_row _ _ 0 _ _ _ hbx7; have r1 := cell_of_row _ _ 1 _ _ _ hbx7; have r2 := cell_of_row _ _ 2 _ _ _ hbx7; have r3 := cell_of_row _ _ 3 _ _ _ hbx7; have g0 := frozen_of_row _ _ 0 _ _ hbx7; have g1 := frozen_of_row _ _ 1 _ _ hbx7; have g2 := frozen_of_row _ _ 2 _ _ hbx7; have g3 := frozen_of_row _ _ 3 _ _ hbx7; have HB7 := Lib.hid hb7; clear hb7 hbx7)
  refine bodyPost_ret (v := .tuple #[.agg #[.string n, .slice none 0 0, .slice none 0 0, .slice none 0 0], .int .i64 0]) (by simp [results, Try.results27, go_sem, r0, r1, r2, r3]) rfl ?_
  refine ⟨none, 0, 0, none, 0, 0, none, 0, 0, rfl, rfl, rfl, rfl, WalM.nil_, ?_⟩
  have hl : w.heap.size ≤ w.heap.size + 1 := Nat.le_succ _
  exact gb_set_new (gb_set_new (gb_set_new (gb_set_new (((gb_below HW.out.1).trans HG5.out).trans (gb_below HB7.out)) hl) hl) hl) hl

end Go.Proofs.Ytlheedcnmfekoaa
