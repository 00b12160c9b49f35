/- The walks of slices.Clone on numbers and coins.Values. The law's examples: what the calls of awake hand back. The law's examples: awake returns true. -/
import Derived.Test.YtapplggboepfaaaGreatDoorBZ
import Derived.Laws.OwnMore
import Derived.Deep.AppendLies
import Derived.OwnWalk
import Derived.Test.YtapplggboepfaaaGreatDoorZM3
import Derived.Test.YtapplggboepfaaaGreatDoorZA
import Derived.Deep.DeepCutAuto
import Derived.Deep.CutBlock
namespace Go.Proofs.YtapplggboepfaaaGreatDoor
open Go.RowKit
set_option maxRecDepth 100000
set_option linter.unusedVariables false
set_option maxHeartbeats 2000000

theorem clone_nats (vals : List ByteArray) (ad : Addr) (n c : Nat) (w : World) (hn : vals.length = n) (hm : n ≤ 1000) (h : SLs w w.heap.size (some ad) vals) :
    Calls Tryz.prog 31 #[.slice (some ad) n c] w fun e w' => (∃ v', e = .returned v' ∧ OwnS w' w.heap.size v' n vals) ∧ Below w.heap.size w w' := by
  have hni := nat_info
  obtain ⟨i0, hi0, hi1⟩ := Option.map_eq_some_iff.1 hni
  obtain ⟨hz0, hz1, hz2⟩ : i0.zero = some (.string ByteArray.empty) ∧ i0.size = 1 ∧ i0.bytes = 16 := by simpa using hi1
  have hlen : (vals.map Value.string).length = n := by rw [List.length_map, hn]
  have hsrc : ∀ j u, (vals.map Value.string)[j]? = some u → (w.alloc (.cells #[] 25)).cell? (ad.add j) = some u := by
    intro j u hj
    have hjn : j < vals.length := by
      have := (List.getElem?_eq_some_iff.1 hj).1
      simpa using this
    obtain ⟨ad', e, hc⟩ := h.at_ hjn
    cases e
    refine Lib.cell?_alloc_some _ ?_
    rw [hc]
    have e2 : (vals.map Value.string)[j]? = some (Value.string (vals.getD j ByteArray.empty)) := by simp [List.getD, List.getElem?_eq_getElem hjn]
    rw [e2] at hj
    exact hj
  have HSRC := Lib.hid hsrc
  have HL := Lib.hid hlen
  have HN := Lib.hid hn
  clear h hsrc hlen hn hi1 hni
  have q24 : ∀ w : World, (binOp .eql 28 (.slice (some ad) n c) (.slice none 0 0)).run Tryz.prog w = .ok (.bool (some ad).isNone) w := fun w => Lib.run_eql_slice_nil w _ _ (some ad) n c 0 0 Tryz.underlying28
  go_enter Tryz.func31, Tryz.ntmps31
  go_wp2_with (at_builtin; refine Go.wpList_append_own _ rfl _ _ 28 rfl w.heap.size 25 i0 (.string ByteArray.empty) 1 16 Tryz.underlying28 hi0 hz0 hz1 hz2 rfl (by decide) _ _ _ rfl (World.ownsRow_made w #[] 0 (Nat.le_refl _) (Nat.zero_le _) rfl) ad n c (vals.map Value.string) rfl ?qc1 ?qc2 ?qc3 ?qc4 ?qc5 ?qc6 ?_)
  case qc1 => rw [HL.out]; simp
  case qc2 => exact HSRC.out
  case qc3 => intro u hu; obtain ⟨x, _, rfl⟩ := List.mem_map.1 hu; rfl
  case qc4 => unfold maxLen; omega
  case qc5 => omega
  case qc6 => simp
  intro v' w1 hown hgrow hnil
  go_wp2
  go_ret
  refine ⟨⟨v', rfl, HN.out, by simpa using hown⟩, ?_⟩
  exact ((Below.refl _ w).alloc (Nat.le_refl _) _).grown hgrow (by simp) (by intro k hk; simp [Value.ownBlock] at hk; omega)

theorem OwnS.formN {w : World} {base : Nat} {v : Value} {n : Nat} {ls : List ByteArray} (h : OwnS w base v n ls) (hz : base ≤ w.heap.size) : ∃ A c, v = .slice A n c ∧ SLs w w.heap.size A ls ∧ ∀ a, A = some a → base ≤ a.block := by
  obtain ⟨hn, hr⟩ := h
  rcases hr.2 with ⟨rfl, rfl⟩ | ⟨g, cap, cur, rfl, hb, hg, _⟩
  · exact ⟨none, 0, rfl, by rw [List.eq_nil_of_length_eq_zero hn]; exact SLs.nil_, fun a h => by cases h⟩
  · refine ⟨some ⟨g, 0, none⟩, cap, rfl, fun _ => ⟨_, rfl, (Array.getElem?_eq_some_iff.1 hg).1, fun j hj => ?_⟩, fun a h => by cases h; exact hb⟩
    refine hr.cells (g := g) rfl j _ ?_
    rw [List.getElem?_map, sgetD_lt hj, List.getElem?_eq_getElem hj]
    rfl
theorem addr_block (ad : Addr) (j : Nat) : (ad.add j).block = ad.block := by unfold Addr.add; split <;> rfl
theorem SLs.far3 {w : World} {b k : Nat} {A : Option Addr} {vals : List ByteArray} {x y t : Value} (hs : SLs w k A vals) (hA : ∀ a, A = some a → b ≠ a.block) :
    SLs (((w.setCell ⟨b, 0, none⟩ x).setCell ⟨b, 1, none⟩ y).setCell ⟨b, 2, none⟩ t) k A vals := by
  intro hne
  obtain ⟨ad, e, hb', hc⟩ := hs hne
  have hg := hA ad e
  refine ⟨ad, e, hb', fun j hj => ?_⟩
  exact hop3 (by rw [addr_block]; exact hg) (hc j hj)
theorem coins_Values (vals : List ByteArray) (ad : Addr) (n c : Nat) (w : World) (hn : vals.length = n) (hm : n ≤ 1000) (h : SLs w w.heap.size (some ad) vals) :
    Calls Tryz.prog 9 #[.slice (some ad) n c] w fun e w' => (∃ A' c', e = .returned (.agg #[.slice A' n c', .string ⟨#[]⟩, .int .i64 0]) ∧ SLs w' w'.heap.size A' vals) ∧ Below w.heap.size w w' := by
  have hb0 : Below w.heap.size w (w.alloc (.cells #[.slice none 0 0, .string ⟨#[]⟩, .int .i64 0] 30)) := (Below.refl _ _).alloc (Nat.le_refl _) _
  have KC := Lib.hid (clone_nats vals ad n c (w.alloc (.cells #[.slice none 0 0, .string ⟨#[]⟩, .int .i64 0] 30)) hn hm ((h.below hb0).more hb0.size))
  have hc0 : (w.alloc (.cells #[.slice none 0 0, .string ⟨#[]⟩, .int .i64 0] 30)).cell? ⟨w.heap.size, 0, none⟩ = some (.slice none 0 0) ∧ (w.alloc (.cells #[.slice none 0 0, .string ⟨#[]⟩, .int .i64 0] 30)).cell? ⟨w.heap.size, 1, none⟩ = some (.string ⟨#[]⟩) ∧ (w.alloc (.cells #[.slice none 0 0, .string ⟨#[]⟩, .int .i64 0] 30)).cell? ⟨w.heap.size, 2, none⟩ = some (.int .i64 0) ∧
    (w.alloc (.cells #[.slice none 0 0, .string ⟨#[]⟩, .int .i64 0] 30)).frozen? ⟨w.heap.size, 0, none⟩ = false ∧ (w.alloc (.cells #[.slice none 0 0, .string ⟨#[]⟩, .int .i64 0] 30)).frozen? ⟨w.heap.size, 1, none⟩ = false ∧ (w.alloc (.cells #[.slice none 0 0, .string ⟨#[]⟩, .int .i64 0] 30)).frozen? ⟨w.heap.size, 2, none⟩ = false :=
    ⟨by simp [go_sem], by simp [go_sem], by simp [go_sem], by simp [go_sem], by simp [go_sem], by simp [go_sem]⟩
  have HC0 := Lib.hid hc0
  have HB0 := Lib.hid hb0
  have hlt : w.heap.size < (w.alloc (.cells #[.slice none 0 0, .string ⟨#[]⟩, .int .i64 0] 30)).heap.size := by simp
  have HLT := Lib.hid hlt
  clear hn h hc0 hb0 hlt
  go_enter Tryz.func9, Tryz.ntmps9
  go_wp2_with (first | (go_at_call 31; (with_reducible refine KC.out.mono ?_); rintro e w1 ⟨⟨v', rfl, hown⟩, hb1⟩
                        obtain ⟨A', c', rfl, hsl, hA⟩ := hown.formN hb1.size
                        obtain ⟨c0, c1, c2, c3, c4, c5⟩ := HC0.out
                        have r0 := (hb1.cell (p := ⟨w.heap.size, 0, none⟩) HLT.out).trans c0
                        have r1 := (hb1.cell (p := ⟨w.heap.size, 1, none⟩) HLT.out).trans c1
                        have r2 := (hb1.cell (p := ⟨w.heap.size, 2, none⟩) HLT.out).trans c2
                        have g0 := (hb1.frozen (p := ⟨w.heap.size, 0, none⟩) HLT.out).trans c3
                        have g1 := (hb1.frozen (p := ⟨w.heap.size, 1, none⟩) HLT.out).trans c4
                        have g2 := (hb1.frozen (p := ⟨w.heap.size, 2, none⟩) HLT.out).trans c5
                        have HSL := Lib.hid hsl
                        have HAA := Lib.hid hA
                        have HB1 := Lib.hid (HB0.out.trans (hb1.mono (Nat.le_of_lt HLT.out)))
                        clear hsl hA hb1 hown c0 c1 c2 c3 c4 c5))
  refine bodyPost_ret (v := .agg #[.slice A' n c', .string ⟨#[]⟩, .int .i64 0]) (by simp [results, Tryz.results9, go_sem, r0, r1, r2]) rfl ⟨⟨A', c', rfl, ?_⟩, ((HB1.out.setCell (p := ⟨w.heap.size, 0, none⟩) (Nat.le_refl _) _).setCell (p := ⟨w.heap.size, 1, none⟩) (Nat.le_refl _) _).setCell (p := ⟨w.heap.size, 2, none⟩) (Nat.le_refl _) _⟩
  have e : ∀ x y t : Value, (((w1.setCell ⟨w.heap.size, 0, none⟩ x).setCell ⟨w.heap.size, 1, none⟩ y).setCell ⟨w.heap.size, 2, none⟩ t).heap.size = w1.heap.size := fun x y t => by simp
  rw [e]
  refine SLs.far3 HSL.out fun a ha => ?_
  have h1 := HAA.out a ha
  have h2 := HLT.out
  omega

end Go.Proofs.YtapplggboepfaaaGreatDoor

namespace Go.Proofs.YtapplggboepfaaaGreatDoor
open Go.RowKit
set_option maxRecDepth 100000
set_option linter.unusedVariables false
set_option maxHeartbeats 1000000

theorem awD1 : primeD 3 [B 0, B 2, B 3] ⟨#[]⟩ 0 = (0, 7, 3) := by decide +kernel
theorem awD2 : mainD 3 [B 3] ⟨#[]⟩ 0 = (0, 29, 7, 1) := by decide +kernel
theorem awD3 : wholeD 3 [B 0, B 0, B 1] ⟨#[]⟩ 0 = (0, 5, 7, 3) := by decide +kernel
theorem values_lit (l : List ByteArray) (n : Nat) (T : TypeId) (w : World) (hn : l.length = n) (hm : n ≤ 1000) :
    Calls Tryz.prog 9 #[.slice (some ⟨w.heap.size, 0, none⟩) n n] (w.alloc (.cells (l.map Value.string).toArray T)) fun e w' => (∃ A' c', e = .returned (.agg #[.slice A' n c', .string ⟨#[]⟩, .int .i64 0]) ∧ SLs w' w'.heap.size A' l) ∧ Below (w.alloc (.cells (l.map Value.string).toArray T)).heap.size (w.alloc (.cells (l.map Value.string).toArray T)) w' :=
  coins_Values l ⟨w.heap.size, 0, none⟩ n n _ hn hm (SLs.new w T l _ (by simp))
theorem values3 (a b c : ByteArray) (T : TypeId) (w : World) :
    Calls Tryz.prog 9 #[.slice (some ⟨w.heap.size, 0, none⟩) 3 3] (w.alloc (.cells #[.string a, .string b, .string c] T)) fun e w' => (∃ A' c', e = .returned (.agg #[.slice A' 3 c', .string ⟨#[]⟩, .int .i64 0]) ∧ SLs w' w'.heap.size A' [a, b, c]) ∧ Below (w.alloc (.cells #[.string a, .string b, .string c] T)).heap.size (w.alloc (.cells #[.string a, .string b, .string c] T)) w' :=
  values_lit [a, b, c] 3 T w rfl (by decide)
theorem values1 (a : ByteArray) (T : TypeId) (w : World) :
    Calls Tryz.prog 9 #[.slice (some ⟨w.heap.size, 0, none⟩) 1 1] (w.alloc (.cells #[.string a] T)) fun e w' => (∃ A' c', e = .returned (.agg #[.slice A' 1 c', .string ⟨#[]⟩, .int .i64 0]) ∧ SLs w' w'.heap.size A' [a]) ∧ Below (w.alloc (.cells #[.string a] T)).heap.size (w.alloc (.cells #[.string a] T)) w' :=
  values_lit [a] 1 T w rfl (by decide)
end Go.Proofs.YtapplggboepfaaaGreatDoor

namespace Go.Proofs.YtapplggboepfaaaGreatDoor
open Go.RowKit
set_option maxRecDepth 100000
set_option linter.unusedVariables false
set_option maxHeartbeats 4000000

/-- What awake holds in memory: some cells, the tables, all of before. -/
structure AwC (w : World) (l : List (Addr × Value)) (wx : World) : Prop where
  cells : ∀ p ∈ l, wx.cell? p.1 = some p.2
  tab : Tab wx
  tab10 : Tab10 wx
  bel : Below w.heap.size w wx
theorem AwC.next {w wx wy : World} {l : List (Addr × Value)} (h : AwC w l wx) (hb : Below wx.heap.size wx wy) : AwC w l wy :=
  ⟨fun p hp => (hb.cell (cell_in (h.cells p hp))).trans (h.cells p hp), h.tab.below hb, h.tab10.below hb, h.bel.trans (hb.mono h.bel.size)⟩
theorem AwC.alloc {w wx : World} {l : List (Addr × Value)} (h : AwC w l wx) (o : Obj) : AwC w l (wx.alloc o) := h.next ((Below.refl _ _).alloc (Nat.le_refl _) _)
theorem AwC.drew {w wx : World} {l : List (Addr × Value)} (h : AwC w l wx) : AwC w l wx.drew := h.next (Below.refl _ _).drew
theorem AwC.add {w wx : World} {l : List (Addr × Value)} {a : Addr} {v : Value} (h : AwC w l wx) (hc : wx.cell? a = some v) : AwC w ((a, v) :: l) wx :=
  ⟨fun p hp => by
    rcases List.mem_cons.1 hp with rfl | hp
    · exact hc
    · exact h.cells p hp, h.tab, h.tab10, h.bel⟩
theorem AwC.all {w wx : World} {g2 g4 g7 g8 : Nat} (h : AwC w [(⟨g8, 1, none⟩, .string (B 7)), (⟨g8, 0, none⟩, .string (B 5)), (⟨g7, 1, none⟩, .string ⟨#[]⟩), (⟨g7, 0, none⟩, .string (B 35)), (⟨g4, 1, none⟩, .string (B 7)), (⟨g4, 0, none⟩, .string (B 29)), (⟨g2, 2, none⟩, .int .i64 3)] wx) :
    wx.cell? ⟨g2, 2, none⟩ = some (.int .i64 3) ∧ wx.cell? ⟨g4, 0, none⟩ = some (.string (B 29)) ∧ wx.cell? ⟨g4, 1, none⟩ = some (.string (B 7)) ∧ wx.cell? ⟨g7, 0, none⟩ = some (.string (B 35)) ∧ wx.cell? ⟨g7, 1, none⟩ = some (.string ⟨#[]⟩) ∧ wx.cell? ⟨g8, 0, none⟩ = some (.string (B 5)) ∧ wx.cell? ⟨g8, 1, none⟩ = some (.string (B 7)) := by
  refine ⟨h.cells (⟨g2, 2, none⟩, .int .i64 3) (by simp), h.cells (⟨g4, 0, none⟩, .string (B 29)) (by simp), h.cells (⟨g4, 1, none⟩, .string (B 7)) (by simp), h.cells (⟨g7, 0, none⟩, .string (B 35)) (by simp), h.cells (⟨g7, 1, none⟩, .string ⟨#[]⟩) (by simp), h.cells (⟨g8, 0, none⟩, .string (B 5)) (by simp), h.cells (⟨g8, 1, none⟩, .string (B 7)) (by simp)⟩
end Go.Proofs.YtapplggboepfaaaGreatDoor
