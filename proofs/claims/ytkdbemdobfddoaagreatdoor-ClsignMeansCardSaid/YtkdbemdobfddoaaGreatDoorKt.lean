/- The law file's few: a setting is small. -/
import Derived.Test.YtkdbemdobfddoaaGreatDoorKm
import Derived.Test.YtkdbemdobfddoaaGreatDoorKs
import Derived.Test.YtkdbemdobfddoaaGreatDoorKd
namespace Go.Proofs.YtkdbemdobfddoaaGreatDoor
open Go.RowKit
set_option maxRecDepth 100000
set_option linter.unusedVariables false
set_option maxHeartbeats 8000000

/-- The values of a setting: 17 of the parameters, 8 of the key, 2 of the trapdoor. -/
def setFew (ch sl mm mo mg mh wm wo wg wh se at_ ha el es bl ma nm m o z s u h P Q : ByteArray) (rs : List ByteArray) : Bool := fewP ch sl mm mo mg mh wm wo wg wh se at_ ha el es bl ma && (fewK nm m o z s u h rs && shS 8 [P, Q])
theorem law30_few (ch sl mm mo mg mh wm wo wg wh se at_ ha el es bl ma nm m o z s u h P Q : ByteArray) (A : Option Addr) (n c b : Nat) (rs : List ByteArray) (w : World) (hn : rs.length = n) (hm : n ≤ maxLen) (hs : SLs w b A rs) (hb : b ≤ w.heap.size) :
    Calls Tryz.prog 9 #[.agg #[.string ch, .string sl, .string mm, .string mo, .string mg, .string mh, .string wm, .string wo, .string wg, .string wh, .string se, .string at_, .string ha, .string el, .string es, .string bl, .string ma, .string nm, .string m, .string o, .string z, .string s, .slice A n c, .string u, .string h, .string P, .string Q]] w fun e w' => e = .returned (.bool (setFew ch sl mm mo mg mh wm wo wg wh se at_ ha el es bl ma nm m o z s u h P Q rs)) ∧ Below w.heap.size w w' := by
  have K1 := Lib.hid (law30_FewParams ch sl mm mo mg mh wm wo wg wh se at_ ha el es bl ma)
  have K2 := Lib.hid (fun (wq : World) h1 h2 => law30_FewKey nm m o z s u h A n c b rs wq hn hm h1 h2)
  have K3 : Hid (∀ (wq : World) A1 b1, SLs wq b1 A1 [P, Q] → Calls Tryz.prog 18 #[.int .i64 8, .slice A1 2 2] wq fun e w' => e = .returned (.bool (shS 8 [P, Q])) ∧ wq = w') := Lib.hid (fun wq A1 b1 h1 => law30_short 8 [P, Q] A1 2 2 b1 wq (by omega) rfl (by unfold maxLen; omega) h1)
  have hr : setFew ch sl mm mo mg mh wm wo wg wh se at_ ha el es bl ma nm m o z s u h P Q rs = (fewP ch sl mm mo mg mh wm wo wg wh se at_ ha el es bl ma && (fewK nm m o z s u h rs && shS 8 [P, Q])) := rfl
  rw [hr]
  clear hr
  obtain ⟨b1, hb1⟩ : ∃ b1, fewP ch sl mm mo mg mh wm wo wg wh se at_ ha el es bl ma = b1 := ⟨_, rfl⟩
  obtain ⟨b2, hb2⟩ : ∃ b2, fewK nm m o z s u h rs = b2 := ⟨_, rfl⟩
  obtain ⟨b3, hb3⟩ : ∃ b3, shS 8 [P, Q] = b3 := ⟨_, rfl⟩
  rw [hb1] at K1
  rw [hb2] at K2
  rw [hb3] at K3
  rw [hb1, hb2, hb3]
  clear hb1 hb2 hb3 hn
  obtain ⟨W0, hW0⟩ : ∃ W0, W0 = w.alloc (.cells #[.string ch, .string sl, .string mm, .string mo, .string mg, .string mh, .string wm, .string wo, .string wg, .string wh, .string se, .string at_, .string ha, .string el, .string es, .string bl, .string ma, .string nm, .string m, .string o, .string z, .string s, .slice A n c, .string u, .string h, .string P, .string Q] 37) := ⟨_, rfl⟩
  have hb0 : Below w.heap.size w W0 := by rw [hW0]; ((repeat (refine Below.alloc ?_ (by first | exact Nat.le_refl _ | (simp only [World.size_alloc]; omega)) _)); exact Below.refl _ _)
  have hg0 : W0.heap[w.heap.size]? = some (.cells #[.string ch, .string sl, .string mm, .string mo, .string mg, .string mh, .string wm, .string wo, .string wg, .string wh, .string se, .string at_, .string ha, .string el, .string es, .string bl, .string ma, .string nm, .string m, .string o, .string z, .string s, .slice A n c, .string u, .string h, .string P, .string Q] 37 (0, 0)) := by rw [hW0]; exact heap_alloc_new w _
  have hz0 : w.heap.size < W0.heap.size := by rw [hW0, World.size_alloc]; omega
  have HS := Lib.hid hs
  have HBB := Lib.hid hb
  clear hs hb
  have HB0 := Lib.hid hb0
  have HG0 := Lib.hid hg0
  have HZ0 := Lib.hid hz0
  rw [hW0] at HB0 HG0 HZ0
  clear hb0 hg0 hz0 hW0 W0
  cases b1
  · go_enter Tryz.func9, Tryz.ntmps9
    go_wp2_with (first | (go_at_call 30; refine (K1.out _).mono ?_; rintro e w1 ⟨rfl, h1⟩; have HB1 := Lib.hid (HB0.out.trans (h1.mono HB0.out.size)); have HG1 := Lib.hid ((h1.block w.heap.size HZ0.out).trans HG0.out); clear h1) | (with_reducible refine wpList_look ?_; refine wpList_load_sub rfl 30 _ rfl _ 0 rfl 37 #[.string ch, .string sl, .string mm, .string mo, .string mg, .string mh, .string wm, .string wo, .string wg, .string wh, .string se, .string at_, .string ha, .string el, .string es, .string bl, .string ma] _ (0, 0) _ HG0.out ext_par Tryz.underlying30 rfl (info17'.trans rfl) ?_))
    go_ret
    exact ⟨rfl, HB1.out⟩
  · cases b2
    · go_enter Tryz.func9, Tryz.ntmps9
      go_wp2_with (first | (go_at_call 30; refine (K1.out _).mono ?_; rintro e w1 ⟨rfl, h1⟩; have HB1 := Lib.hid (HB0.out.trans (h1.mono HB0.out.size)); have HG1 := Lib.hid ((h1.block w.heap.size HZ0.out).trans HG0.out); clear h1) | (go_at_call 31; refine (K2.out _ (HS.out.next HBB.out HB1.out) (Nat.le_trans HBB.out HB1.out.size)).mono ?_; rintro e w2 ⟨rfl, h2⟩; have HB2 := Lib.hid (HB1.out.trans (h2.mono HB1.out.size)); have HG2 := Lib.hid ((h2.block w.heap.size (Nat.lt_of_lt_of_le (Array.getElem?_eq_some_iff.1 HG1.out).1 (Nat.le_refl _))).trans HG1.out); have c25 : w2.cell? ⟨w.heap.size, 25, none⟩ = some (.string P) := (cell_of_row w2 _ 25 _ _ _ HG2.out).trans rfl; have c26 : w2.cell? ⟨w.heap.size, 26, none⟩ = some (.string Q) := (cell_of_row w2 _ 26 _ _ _ HG2.out).trans rfl; clear h2) | (with_reducible refine wpList_look ?_; refine wpList_load_sub rfl 30 _ rfl _ 0 rfl 37 #[.string ch, .string sl, .string mm, .string mo, .string mg, .string mh, .string wm, .string wo, .string wg, .string wh, .string se, .string at_, .string ha, .string el, .string es, .string bl, .string ma] _ (0, 0) _ HG0.out ext_par Tryz.underlying30 rfl (info17'.trans rfl) ?_) | (with_reducible refine wpList_look ?_; refine wpList_load_sub rfl 33 _ rfl _ 17 rfl 37 #[.string nm, .string m, .string o, .string z, .string s, .slice A n c, .string u, .string h] _ (0, 0) _ HG1.out ext_key Tryz.underlying33 rfl (info8'.trans rfl) ?_))
      go_ret
      exact ⟨rfl, HB2.out⟩
    · go_enter Tryz.func9, Tryz.ntmps9
      go_wp2_with (first | (go_at_call 30; refine (K1.out _).mono ?_; rintro e w1 ⟨rfl, h1⟩; have HB1 := Lib.hid (HB0.out.trans (h1.mono HB0.out.size)); have HG1 := Lib.hid ((h1.block w.heap.size HZ0.out).trans HG0.out); clear h1) | (go_at_call 31; refine (K2.out _ (HS.out.next HBB.out HB1.out) (Nat.le_trans HBB.out HB1.out.size)).mono ?_; rintro e w2 ⟨rfl, h2⟩; have HB2 := Lib.hid (HB1.out.trans (h2.mono HB1.out.size)); have HG2 := Lib.hid ((h2.block w.heap.size (Nat.lt_of_lt_of_le (Array.getElem?_eq_some_iff.1 HG1.out).1 (Nat.le_refl _))).trans HG1.out); have c25 : w2.cell? ⟨w.heap.size, 25, none⟩ = some (.string P) := (cell_of_row w2 _ 25 _ _ _ HG2.out).trans rfl; have c26 : w2.cell? ⟨w.heap.size, 26, none⟩ = some (.string Q) := (cell_of_row w2 _ 26 _ _ _ HG2.out).trans rfl; clear h2) | (go_at_call 18; refine (K3.out _ _ _ (SLs.newAt _ 22 [P, Q] _ rfl)).mono ?_; rintro e w3 ⟨rfl, rfl⟩) | (with_reducible refine wpList_look ?_; refine wpList_load_sub rfl 30 _ rfl _ 0 rfl 37 #[.string ch, .string sl, .string mm, .string mo, .string mg, .string mh, .string wm, .string wo, .string wg, .string wh, .string se, .string at_, .string ha, .string el, .string es, .string bl, .string ma] _ (0, 0) _ HG0.out ext_par Tryz.underlying30 rfl (info17'.trans rfl) ?_) | (with_reducible refine wpList_look ?_; refine wpList_load_sub rfl 33 _ rfl _ 17 rfl 37 #[.string nm, .string m, .string o, .string z, .string s, .slice A n c, .string u, .string h] _ (0, 0) _ HG1.out ext_key Tryz.underlying33 rfl (info8'.trans rfl) ?_))
      go_ret
      exact ⟨ret_bool (by simp), HB2.out.alloc HB2.out.size _⟩

end Go.Proofs.YtkdbemdobfddoaaGreatDoor
