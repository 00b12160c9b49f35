/- The walks of slices.Clone on numbers and coins.Values. The law's examples: what the calls of awake hand back. The law's examples: awake returns true. -/
import Derived.Test.YtdajbcohmnmbpaaGreatDoorBZ
import Derived.Laws.OwnMore
import Derived.Deep.AppendLies
import Derived.OwnWalk
import Derived.Test.YtdajbcohmnmbpaaGreatDoorZM3
import Derived.Test.YtdajbcohmnmbpaaGreatDoorZA
import Derived.Deep.DeepCutAuto
import Derived.Deep.CutBlock
namespace Go.Proofs.YtdajbcohmnmbpaaGreatDoor
open Go.RowKit
set_option maxRecDepth 100000
set_option linter.unusedVariables false
set_option maxHeartbeats 2000000

theorem clone_nats (vals : List ByteArray) (ad : Addr) (n c : Nat) (w : World) (hn : vals.length = n) (hm : n ≤ 1000) (h : SLs w w.heap.size (some ad) vals) :
    Calls Tryz.prog 116 #[.slice (some ad) n c] w fun e w' => (∃ v', e = .returned v' ∧ OwnS w' w.heap.size v' n vals) ∧ Below w.heap.size w w' := by
  have hni := nat_info
  obtain ⟨i0, hi0, hi1⟩ := Option.map_eq_some_iff.1 hni
  obtain ⟨hz0, hz1, hz2⟩ : i0.zero = some (.string ByteArray.empty) ∧ i0.size = 1 ∧ i0.bytes = 16 := by simpa using hi1
  have hlen : (vals.map Value.string).length = n := by rw [List.length_map, hn]
  have hsrc : ∀ j u, (vals.map Value.string)[j]? = some u → (w.alloc (.cells #[] 28)).cell? (ad.add j) = some u := by
    intro j u hj
    have hjn : j < vals.length := by
      have := (List.getElem?_eq_some_iff.1 hj).1
      simpa using this
    obtain ⟨ad', e, hc⟩ := h.at_ hjn
    cases e
    refine Lib.cell?_alloc_some _ ?_
    rw [hc]
    have e2 : (vals.map Value.string)[j]? = some (Value.string (vals.getD j ByteArray.empty)) := by simp [List.getD, List.getElem?_eq_getElem hjn]
    rw [e2] at hj
    exact hj
  have HSRC := Lib.hid hsrc
  have HL := Lib.hid hlen
  have HN := Lib.hid hn
  clear h hsrc hlen hn hi1 hni
  have q24 : ∀ w : World, (binOp .eql 22 (.slice (some ad) n c) (.slice none 0 0)).run Tryz.prog w = .ok (.bool (some ad).isNone) w := fun w => Lib.run_eql_slice_nil w _ _ (some ad) n c 0 0 Tryz.underlying22
  go_enter Tryz.func116, Tryz.ntmps116
  go_wp2_with (at_builtin; refine Go.wpList_append_own _ rfl _ _ 22 rfl w.heap.size 28 i0 (.string ByteArray.empty) 1 16 Tryz.underlying22 hi0 hz0 hz1 hz2 rfl (by decide) _ _ _ rfl (World.ownsRow_made w #[] 0 (Nat.le_refl _) (Nat.zero_le _) rfl) ad n c (vals.map Value.string) rfl ?qc1 ?qc2 ?qc3 ?qc4 ?qc5 ?qc6 ?_)
  case qc1 => rw [HL.out]; simp
  case qc2 => exact HSRC.out
  case qc3 => intro u hu; obtain ⟨x, _, rfl⟩ := List.mem_map.1 hu; rfl
  case qc4 => unfold maxLen; omega
  case qc5 => omega
  case qc6 => simp
  intro v' w1 hown hgrow hnil
  go_wp2
  go_ret
  refine ⟨⟨v', rfl, HN.out, by simpa using hown⟩, ?_⟩
  exact ((Below.refl _ w).alloc (Nat.le_refl _) _).grown hgrow (by simp) (by intro k hk; simp [Value.ownBlock] at hk; omega)

theorem OwnS.formN {w : World} {base : Nat} {v : Value} {n : Nat} {ls : List ByteArray} (h : OwnS w base v n ls) (hz : base ≤ w.heap.size) : ∃ A c, v = .slice A n c ∧ SLs w w.heap.size A ls ∧ ∀ a, A = some a → base ≤ a.block := by
  obtain ⟨hn, hr⟩ := h
  rcases hr.2 with ⟨rfl, rfl⟩ | ⟨g, cap, cur, rfl, hb, hg, _⟩
  · exact ⟨none, 0, rfl, by rw [List.eq_nil_of_length_eq_zero hn]; exact SLs.nil_, fun a h => by cases h⟩
  · refine ⟨some ⟨g, 0, none⟩, cap, rfl, fun _ => ⟨_, rfl, (Array.getElem?_eq_some_iff.1 hg).1, fun j hj => ?_⟩, fun a h => by cases h; exact hb⟩
    refine hr.cells (g := g) rfl j _ ?_
    rw [List.getElem?_map, sgetD_lt hj, List.getElem?_eq_getElem hj]
    rfl
theorem addr_block (ad : Addr) (j : Nat) : (ad.add j).block = ad.block := by unfold Addr.add; split <;> rfl
theorem SLs.far3 {w : World} {b k : Nat} {A : Option Addr} {vals : List ByteArray} {x y t : Value} (hs : SLs w k A vals) (hA : ∀ a, A = some a → b ≠ a.block) :
    SLs (((w.setCell ⟨b, 0, none⟩ x).setCell ⟨b, 1, none⟩ y).setCell ⟨b, 2, none⟩ t) k A vals := by
  intro hne
  obtain ⟨ad, e, hb', hc⟩ := hs hne
  have hg := hA ad e
  refine ⟨ad, e, hb', fun j hj => ?_⟩
  exact hop3 (by rw [addr_block]; exact hg) (hc j hj)
theorem coins_Values (vals : List ByteArray) (ad : Addr) (n c : Nat) (w : World) (hn : vals.length = n) (hm : n ≤ 1000) (h : SLs w w.heap.size (some ad) vals) :
    Calls Tryz.prog 46 #[.slice (some ad) n c] w fun e w' => (∃ A' c', e = .returned (.agg #[.slice A' n c', .string ⟨#[]⟩, .int .i64 0]) ∧ SLs w' w'.heap.size A' vals) ∧ Below w.heap.size w w' := by
  have hb0 : Below w.heap.size w (w.alloc (.cells #[.slice none 0 0, .string ⟨#[]⟩, .int .i64 0] 24)) := (Below.refl _ _).alloc (Nat.le_refl _) _
  have KC := Lib.hid (clone_nats vals ad n c (w.alloc (.cells #[.slice none 0 0, .string ⟨#[]⟩, .int .i64 0] 24)) hn hm ((h.below hb0).more hb0.size))
  have hc0 : (w.alloc (.cells #[.slice none 0 0, .string ⟨#[]⟩, .int .i64 0] 24)).cell? ⟨w.heap.size, 0, none⟩ = some (.slice none 0 0) ∧ (w.alloc (.cells #[.slice none 0 0, .string ⟨#[]⟩, .int .i64 0] 24)).cell? ⟨w.heap.size, 1, none⟩ = some (.string ⟨#[]⟩) ∧ (w.alloc (.cells #[.slice none 0 0, .string ⟨#[]⟩, .int .i64 0] 24)).cell? ⟨w.heap.size, 2, none⟩ = some (.int .i64 0) ∧
    (w.alloc (.cells #[.slice none 0 0, .string ⟨#[]⟩, .int .i64 0] 24)).frozen? ⟨w.heap.size, 0, none⟩ = false ∧ (w.alloc (.cells #[.slice none 0 0, .string ⟨#[]⟩, .int .i64 0] 24)).frozen? ⟨w.heap.size, 1, none⟩ = false ∧ (w.alloc (.cells #[.slice none 0 0, .string ⟨#[]⟩, .int .i64 0] 24)).frozen? ⟨w.heap.size, 2, none⟩ = false :=
    ⟨by simp [go_sem], by simp [go_sem], by simp [go_sem], by simp [go_sem], by simp [go_sem], by simp [go_sem]⟩
  have HC0 := Lib.hid hc0
  have HB0 := Lib.hid hb0
  have hlt : w.heap.size < (w.alloc (.cells #[.slice none 0 0, .string ⟨#[]⟩, .int .i64 0] 24)).heap.size := by simp
  have HLT := Lib.hid hlt
  clear hn h hc0 hb0 hlt
  go_enter Tryz.func46, Tryz.ntmps46
  go_wp2_with (first | (go_at_call 116; (with_reducible refine KC.out.mono ?_); rintro e w1 ⟨⟨v', rfl, hown⟩, hb1⟩
                        obtain ⟨A', c', rfl, hsl, hA⟩ := hown.formN hb1.size
                        obtain ⟨c0, c1, c2, c3, c4, c5⟩ := HC0.out
                        have r0 := (hb1.cell (p := ⟨w.heap.size, 0, none⟩) HLT.out).trans c0
                        have r1 := (hb1.cell (p := ⟨w.heap.size, 1, none⟩) HLT.out).trans c1
                        have r2 := (hb1.cell (p := ⟨w.heap.size, 2, none⟩) HLT.out).trans c2
                        have g0 := (hb1.frozen (p := ⟨w.heap.size, 0, none⟩) HLT.out).trans c3
                        have g1 := (hb1.frozen (p := ⟨w.heap.size, 1, none⟩) HLT.out).trans c4
                        have g2 := (hb1.frozen (p := ⟨w.heap.size, 2, none⟩) HLT.out).trans c5
                        have HSL := Lib.hid hsl
                        have HAA := Lib.hid hA
                        have HB1 := Lib.hid (HB0.out.trans (hb1.mono (Nat.le_of_lt HLT.out)))
                        clear hsl hA hb1 hown c0 c1 c2 c3 c4 c5))
  refine bodyPost_ret (v := .agg #[.slice A' n c', .string ⟨#[]⟩, .int .i64 0]) (by simp [results, Tryz.results46, go_sem, r0, r1, r2]) rfl ⟨⟨A', c', rfl, ?_⟩, ((HB1.out.setCell (p := ⟨w.heap.size, 0, none⟩) (Nat.le_refl _) _).setCell (p := ⟨w.heap.size, 1, none⟩) (Nat.le_refl _) _).setCell (p := ⟨w.heap.size, 2, none⟩) (Nat.le_refl _) _⟩
  have e : ∀ x y t : Value, (((w1.setCell ⟨w.heap.size, 0, none⟩ x).setCell ⟨w.heap.size, 1, none⟩ y).setCell ⟨w.heap.size, 2, none⟩ t).heap.size = w1.heap.size := fun x y t => by simp
  rw [e]
  refine SLs.far3 HSL.out fun a ha => ?_
  have h1 := HAA.out a ha
  have h2 := HLT.out
  omega

end Go.Proofs.YtdajbcohmnmbpaaGreatDoor

namespace Go.Proofs.YtdajbcohmnmbpaaGreatDoor
open Go.RowKit
set_option maxRecDepth 100000
set_option linter.unusedVariables false
set_option maxHeartbeats 1000000

theorem awD1 : primeD 3 [B 0, B 2, B 3] ⟨#[]⟩ 0 = (0, 7, 3) := by decide +kernel
theorem awD2 : mainD 3 [B 3] ⟨#[]⟩ 0 = (0, 29, 7, 1) := by decide +kernel
theorem awD3 : wholeD 3 [B 0, B 0, B 1] ⟨#[]⟩ 0 = (0, 5, 7, 3) := by decide +kernel
theorem num_lit (i : Int) (n : Nat) (w : World) (h : i = (n : Int)) (hn : n < 18446744073709551616) : Calls Tryz.prog 47 #[.int .u64 i] w fun e w' => e = .returned (.string (B n)) ∧ Below w.heap.size w w' := by
  subst h
  exact law11_num n w hn
theorem values_lit (l : List ByteArray) (n : Nat) (T : TypeId) (w : World) (hn : l.length = n) (hm : n ≤ 1000) :
    Calls Tryz.prog 46 #[.slice (some ⟨w.heap.size, 0, none⟩) n n] (w.alloc (.cells (l.map Value.string).toArray T)) fun e w' => (∃ A' c', e = .returned (.agg #[.slice A' n c', .string ⟨#[]⟩, .int .i64 0]) ∧ SLs w' w'.heap.size A' l) ∧ Below (w.alloc (.cells (l.map Value.string).toArray T)).heap.size (w.alloc (.cells (l.map Value.string).toArray T)) w' :=
  coins_Values l ⟨w.heap.size, 0, none⟩ n n _ hn hm (SLs.new w T l _ (by simp))
theorem values3 (a b c : ByteArray) (T : TypeId) (w : World) :
    Calls Tryz.prog 46 #[.slice (some ⟨w.heap.size, 0, none⟩) 3 3] (w.alloc (.cells #[.string a, .string b, .string c] T)) fun e w' => (∃ A' c', e = .returned (.agg #[.slice A' 3 c', .string ⟨#[]⟩, .int .i64 0]) ∧ SLs w' w'.heap.size A' [a, b, c]) ∧ Below (w.alloc (.cells #[.string a, .string b, .string c] T)).heap.size (w.alloc (.cells #[.string a, .string b, .string c] T)) w' :=
  values_lit [a, b, c] 3 T w rfl (by decide)
theorem values1 (a : ByteArray) (T : TypeId) (w : World) :
    Calls Tryz.prog 46 #[.slice (some ⟨w.heap.size, 0, none⟩) 1 1] (w.alloc (.cells #[.string a] T)) fun e w' => (∃ A' c', e = .returned (.agg #[.slice A' 1 c', .string ⟨#[]⟩, .int .i64 0]) ∧ SLs w' w'.heap.size A' [a]) ∧ Below (w.alloc (.cells #[.string a] T)).heap.size (w.alloc (.cells #[.string a] T)) w' :=
  values_lit [a] 1 T w rfl (by decide)
theorem prime_lit (A : Option Addr) (c : Nat) (w : World) (h : SLs w w.heap.size A [B 0, B 2, B 3]) (hT : Tab w) (hT10 : Tab10 w) :
    Calls Tryz.prog 45 #[.int .i64 3, .agg #[.slice A 3 c, .string ⟨#[]⟩, .int .i64 0]] w fun e w' => (∃ g, e = .returned (.tuple #[.string (B 7), .agg #[.slice (some ⟨g, 0, none⟩) 3 3, .string ⟨#[]⟩, .int .i64 3], .int .i64 0])) ∧ Below w.heap.size w w' := by
  refine (params_Prime 3 [B 0, B 2, B 3] A 3 c ⟨#[]⟩ 0 w rfl (by decide) h (by decide) hT hT10).mono ?_
  rintro e w' ⟨hp, hb⟩
  rw [awD1] at hp
  rcases hp with ⟨_, g, rfl, _⟩ | ⟨h0, _⟩
  · exact ⟨⟨g, rfl⟩, hb⟩
  · exact absurd rfl h0
theorem main_lit (A : Option Addr) (c : Nat) (w : World) (h : SLs w w.heap.size A [B 3]) (hT : Tab w) (hT10 : Tab10 w) :
    Calls Tryz.prog 14 #[.int .i64 3, .agg #[.slice A 1 c, .string ⟨#[]⟩, .int .i64 0]] w fun e w' => (∃ g, e = .returned (.tuple #[.agg #[.string (B 29), .string (B 7)], .agg #[.slice (some ⟨g, 0, none⟩) 1 1, .string ⟨#[]⟩, .int .i64 1], .int .i64 0])) ∧ Below w.heap.size w w' := by
  refine (params_Main 3 [B 3] A 1 c ⟨#[]⟩ 0 w rfl (by decide) h (by decide) hT hT10).mono ?_
  rintro e w' ⟨hp, hb⟩
  rw [awD2] at hp
  rcases hp with ⟨_, g, rfl⟩ | ⟨h0, _⟩
  · exact ⟨⟨g, rfl⟩, hb⟩
  · exact absurd rfl h0
theorem whole_lit (A : Option Addr) (c : Nat) (w : World) (h : SLs w w.heap.size A [B 0, B 0, B 1]) (hT : Tab w) (hT10 : Tab10 w) :
    Calls Tryz.prog 16 #[.int .i64 3, .agg #[.slice A 3 c, .string ⟨#[]⟩, .int .i64 0]] w fun e w' => (∃ g, e = .returned (.tuple #[.agg #[.string (B 35), .string ⟨#[]⟩], .agg #[.string (B 5), .string (B 7)], .agg #[.slice (some ⟨g, 0, none⟩) 3 3, .string ⟨#[]⟩, .int .i64 3], .int .i64 0])) ∧ Below w.heap.size w w' := by
  refine (params_Whole 3 [B 0, B 0, B 1] A 3 c ⟨#[]⟩ 0 w rfl (by decide) h (by decide) hT hT10).mono ?_
  rintro e w' ⟨hp, hb⟩
  rw [awD3] at hp
  rcases hp with ⟨_, g, rfl⟩ | ⟨h0, _⟩
  · exact ⟨⟨g, rfl⟩, hb⟩
  · exact absurd rfl h0

end Go.Proofs.YtdajbcohmnmbpaaGreatDoor

namespace Go.Proofs.YtdajbcohmnmbpaaGreatDoor
open Go.RowKit
set_option maxRecDepth 100000
set_option linter.unusedVariables false
set_option maxHeartbeats 4000000

/-- What awake holds in memory: some cells, the tables, all of before. -/
structure AwC (w : World) (l : List (Addr × Value)) (wx : World) : Prop where
  cells : ∀ p ∈ l, wx.cell? p.1 = some p.2
  tab : Tab wx
  tab10 : Tab10 wx
  bel : Below w.heap.size w wx
theorem AwC.next {w wx wy : World} {l : List (Addr × Value)} (h : AwC w l wx) (hb : Below wx.heap.size wx wy) : AwC w l wy :=
  ⟨fun p hp => (hb.cell (cell_in (h.cells p hp))).trans (h.cells p hp), h.tab.below hb, h.tab10.below hb, h.bel.trans (hb.mono h.bel.size)⟩
theorem AwC.alloc {w wx : World} {l : List (Addr × Value)} (h : AwC w l wx) (o : Obj) : AwC w l (wx.alloc o) := h.next ((Below.refl _ _).alloc (Nat.le_refl _) _)
theorem AwC.drew {w wx : World} {l : List (Addr × Value)} (h : AwC w l wx) : AwC w l wx.drew := h.next (Below.refl _ _).drew
theorem AwC.add {w wx : World} {l : List (Addr × Value)} {a : Addr} {v : Value} (h : AwC w l wx) (hc : wx.cell? a = some v) : AwC w ((a, v) :: l) wx :=
  ⟨fun p hp => by
    rcases List.mem_cons.1 hp with rfl | hp
    · exact hc
    · exact h.cells p hp, h.tab, h.tab10, h.bel⟩
theorem AwC.all {w wx : World} {g2 g4 g7 g8 : Nat} (h : AwC w [(⟨g8, 1, none⟩, .string (B 7)), (⟨g8, 0, none⟩, .string (B 5)), (⟨g7, 1, none⟩, .string ⟨#[]⟩), (⟨g7, 0, none⟩, .string (B 35)), (⟨g4, 1, none⟩, .string (B 7)), (⟨g4, 0, none⟩, .string (B 29)), (⟨g2, 2, none⟩, .int .i64 3)] wx) :
    wx.cell? ⟨g2, 2, none⟩ = some (.int .i64 3) ∧ wx.cell? ⟨g4, 0, none⟩ = some (.string (B 29)) ∧ wx.cell? ⟨g4, 1, none⟩ = some (.string (B 7)) ∧ wx.cell? ⟨g7, 0, none⟩ = some (.string (B 35)) ∧ wx.cell? ⟨g7, 1, none⟩ = some (.string ⟨#[]⟩) ∧ wx.cell? ⟨g8, 0, none⟩ = some (.string (B 5)) ∧ wx.cell? ⟨g8, 1, none⟩ = some (.string (B 7)) := by
  refine ⟨h.cells (⟨g2, 2, none⟩, .int .i64 3) (by simp), h.cells (⟨g4, 0, none⟩, .string (B 29)) (by simp), h.cells (⟨g4, 1, none⟩, .string (B 7)) (by simp), h.cells (⟨g7, 0, none⟩, .string (B 35)) (by simp), h.cells (⟨g7, 1, none⟩, .string ⟨#[]⟩) (by simp), h.cells (⟨g8, 0, none⟩, .string (B 5)) (by simp), h.cells (⟨g8, 1, none⟩, .string (B 7)) (by simp)⟩
theorem law11_awake (w : World) (hT : Tab w) (hT10 : Tab10 w) : Calls Tryz.prog 13 #[] w fun e w' => e = .returned (.bool true) ∧ Below w.heap.size w w' := by
  have HA := Lib.hid (show AwC w [] w from ⟨fun p hp => (by cases hp), hT, hT10, Below.refl _ _⟩)
  clear hT hT10
  go_enter Tryz.func13, Tryz.ntmps13
  go_upto_region 1 with fail
  go_cut [1, 2, 3] (fun a b c wx => ∃ g2, a = .string (B 7) ∧ b = .pointer (some ⟨g2, 0, none⟩) ∧ c = .int .i64 0 ∧ AwC w [(⟨g2, 2, none⟩, .int .i64 3)] wx)
  case first =>
    go_wp2_with (first
      | (go_at_call 47; (with_reducible refine (num_lit 0 0 _ rfl (by decide)).mono ?_); rintro e w1 ⟨rfl, hb1⟩; have HA1 := Lib.hid (HA.out.next hb1); clear hb1)
      | (go_at_call 47; (with_reducible refine (num_lit 2 2 _ rfl (by decide)).mono ?_); rintro e w2 ⟨rfl, hb2⟩; have HA2 := Lib.hid (HA1.out.next hb2); clear hb2)
      | (go_at_call 47; (with_reducible refine (num_lit 3 3 _ rfl (by decide)).mono ?_); rintro e w3 ⟨rfl, hb3⟩; have HA3 := Lib.hid (HA2.out.next hb3); clear hb3)
      | (go_at_call 46; (with_reducible refine (values3 _ _ _ _ _).mono ?_); rintro e w4 ⟨⟨A', c', rfl, hsl⟩, hb4⟩; have HSL := Lib.hid hsl; have HA4 := Lib.hid ((HA3.out.alloc _).next hb4); clear hb4 hsl)
      | (go_at_call 45; (with_reducible refine (prime_lit _ _ _ HSL.out HA4.out.tab HA4.out.tab10).mono ?_); rintro e w5 ⟨⟨g, rfl⟩, hb5⟩; have HA5 := Lib.hid (HA4.out.next hb5); clear hb5))
    go_meet
    exact ⟨w5.heap.size, rfl, rfl, rfl, (HA5.out.alloc _).add (by simp [go_sem])⟩
  case rest =>
  obtain ⟨g2, rfl, rfl, rfl, hcut⟩ := hcut
  have HA := Lib.hid hcut
  clear hcut
  go_upto_region 2 with fail
  go_cut [4, 6] (fun b c wx => ∃ g4, b = .pointer (some ⟨g4, 0, none⟩) ∧ c = .int .i64 0 ∧ AwC w [(⟨g4, 1, none⟩, .string (B 7)), (⟨g4, 0, none⟩, .string (B 29)), (⟨g2, 2, none⟩, .int .i64 3)] wx)
  case first =>
    go_wp2_with (first
      | (go_at_call 47; (with_reducible refine (num_lit 3 3 _ rfl (by decide)).mono ?_); rintro e w3 ⟨rfl, hb3⟩; have HA3 := Lib.hid (HA.out.next hb3); clear hb3)
      | (go_at_call 46; (with_reducible refine (values1 _ _ _).mono ?_); rintro e w4 ⟨⟨A', c', rfl, hsl⟩, hb4⟩; have HSL := Lib.hid hsl; have HA4 := Lib.hid ((HA3.out.alloc _).next hb4); clear hb4 hsl)
      | (go_at_call 14; (with_reducible refine (main_lit _ _ _ HSL.out HA4.out.tab HA4.out.tab10).mono ?_); rintro e w5 ⟨⟨g, rfl⟩, hb5⟩; have HA5 := Lib.hid (HA4.out.next hb5); clear hb5))
    go_meet
    exact ⟨w5.heap.size, rfl, rfl, (((HA5.out.alloc _).alloc _).add (by simp [go_sem])).add (by simp [go_sem])⟩
  case rest =>
  obtain ⟨g4, rfl, rfl, hcut⟩ := hcut
  have HA := Lib.hid hcut
  clear hcut
  go_upto_region 3 with fail
  go_cut [7, 8, 10] (fun a b c wx => ∃ g7 g8, a = .pointer (some ⟨g7, 0, none⟩) ∧ b = .pointer (some ⟨g8, 0, none⟩) ∧ c = .int .i64 0 ∧ AwC w [(⟨g8, 1, none⟩, .string (B 7)), (⟨g8, 0, none⟩, .string (B 5)), (⟨g7, 1, none⟩, .string ⟨#[]⟩), (⟨g7, 0, none⟩, .string (B 35)), (⟨g4, 1, none⟩, .string (B 7)), (⟨g4, 0, none⟩, .string (B 29)), (⟨g2, 2, none⟩, .int .i64 3)] wx)
  case first =>
    go_wp2_with (first
      | (go_at_call 47; (with_reducible refine (num_lit 0 0 _ rfl (by decide)).mono ?_); rintro e w1 ⟨rfl, hb1⟩; have HA1 : Hid (AwC w [(⟨g4, 1, none⟩, .string (B 7)), (⟨g4, 0, none⟩, .string (B 29)), (⟨g2, 2, none⟩, .int .i64 3)] w1) := (by first | exact Lib.hid (HA1.out.next hb1) | exact Lib.hid (HA.out.next hb1)); clear hb1)
      | (go_at_call 47; (with_reducible refine (num_lit 1 1 _ rfl (by decide)).mono ?_); rintro e w3 ⟨rfl, hb3⟩; have HA3 := Lib.hid (HA1.out.next hb3); clear hb3)
      | (go_at_call 46; (with_reducible refine (values3 _ _ _ _ _).mono ?_); rintro e w4 ⟨⟨A', c', rfl, hsl⟩, hb4⟩; have HSL := Lib.hid hsl; have HA4 := Lib.hid ((HA3.out.alloc _).next hb4); clear hb4 hsl)
      | (go_at_call 16; (with_reducible refine (whole_lit _ _ _ HSL.out HA4.out.tab HA4.out.tab10).mono ?_); rintro e w5 ⟨⟨g, rfl⟩, hb5⟩; have HA5 := Lib.hid (HA4.out.next hb5); clear hb5))
    go_meet
    exact ⟨w5.heap.size, w5.heap.size + 1, rfl, rfl, rfl, (((((((HA5.out.alloc _).alloc _).alloc _).add (by simp [go_sem])).add (by simp [go_sem])).add (by simp [go_sem])).add (by simp [go_sem]))⟩
  case rest =>
  obtain ⟨g7, g8, rfl, rfl, rfl, hcut⟩ := hcut
  have HA := Lib.hid hcut
  clear hcut
  go_upto_region 4 with fail
  have HAc := HA
  obtain ⟨y0, y1, y2, y3, y4, y5, y6⟩ := HAc.out.all
  go_region_held3 (fun w' => w'.cell? ⟨g2, 2, none⟩ = some (.int .i64 3) ∧ w'.cell? ⟨g4, 0, none⟩ = some (.string (B 29)) ∧ w'.cell? ⟨g4, 1, none⟩ = some (.string (B 7)) ∧ w'.cell? ⟨g7, 0, none⟩ = some (.string (B 35)) ∧ w'.cell? ⟨g7, 1, none⟩ = some (.string ⟨#[]⟩) ∧ w'.cell? ⟨g8, 0, none⟩ = some (.string (B 5)) ∧ w'.cell? ⟨g8, 1, none⟩ = some (.string (B 7))) (first | go_keep) (first
    | (go_at_call 47; (with_reducible refine (num_lit 7 7 _ rfl (by decide)).mono ?_); rintro e w1 ⟨rfl, hb1⟩; have HAc := (by first | (with_reducible exact Lib.hid (HAc.out.next hb1)) | (with_reducible exact Lib.hid (HAc.out.drew.next hb1)) : Hid (AwC w [(⟨g8, 1, none⟩, .string (B 7)), (⟨g8, 0, none⟩, .string (B 5)), (⟨g7, 1, none⟩, .string ⟨#[]⟩), (⟨g7, 0, none⟩, .string (B 35)), (⟨g4, 1, none⟩, .string (B 7)), (⟨g4, 0, none⟩, .string (B 29)), (⟨g2, 2, none⟩, .int .i64 3)] w1)); obtain ⟨y0, y1, y2, y3, y4, y5, y6⟩ := HAc.out.all; clear hb1)
    | (go_at_call 47; (with_reducible refine (num_lit 29 29 _ rfl (by decide)).mono ?_); rintro e w1 ⟨rfl, hb1⟩; have HAc := (by first | (with_reducible exact Lib.hid (HAc.out.next hb1)) | (with_reducible exact Lib.hid (HAc.out.drew.next hb1)) : Hid (AwC w [(⟨g8, 1, none⟩, .string (B 7)), (⟨g8, 0, none⟩, .string (B 5)), (⟨g7, 1, none⟩, .string ⟨#[]⟩), (⟨g7, 0, none⟩, .string (B 35)), (⟨g4, 1, none⟩, .string (B 7)), (⟨g4, 0, none⟩, .string (B 29)), (⟨g2, 2, none⟩, .int .i64 3)] w1)); obtain ⟨y0, y1, y2, y3, y4, y5, y6⟩ := HAc.out.all; clear hb1)
    | (go_at_call 47; (with_reducible refine (num_lit 35 35 _ rfl (by decide)).mono ?_); rintro e w1 ⟨rfl, hb1⟩; have HAc := (by first | (with_reducible exact Lib.hid (HAc.out.next hb1)) | (with_reducible exact Lib.hid (HAc.out.drew.next hb1)) : Hid (AwC w [(⟨g8, 1, none⟩, .string (B 7)), (⟨g8, 0, none⟩, .string (B 5)), (⟨g7, 1, none⟩, .string ⟨#[]⟩), (⟨g7, 0, none⟩, .string (B 35)), (⟨g4, 1, none⟩, .string (B 7)), (⟨g4, 0, none⟩, .string (B 29)), (⟨g2, 2, none⟩, .int .i64 3)] w1)); obtain ⟨y0, y1, y2, y3, y4, y5, y6⟩ := HAc.out.all; clear hb1)
    | (go_at_call 47; (with_reducible refine (num_lit 5 5 _ rfl (by decide)).mono ?_); rintro e w1 ⟨rfl, hb1⟩; have HAc := (by first | (with_reducible exact Lib.hid (HAc.out.next hb1)) | (with_reducible exact Lib.hid (HAc.out.drew.next hb1)) : Hid (AwC w [(⟨g8, 1, none⟩, .string (B 7)), (⟨g8, 0, none⟩, .string (B 5)), (⟨g7, 1, none⟩, .string ⟨#[]⟩), (⟨g7, 0, none⟩, .string (B 35)), (⟨g4, 1, none⟩, .string (B 7)), (⟨g4, 0, none⟩, .string (B 29)), (⟨g2, 2, none⟩, .int .i64 3)] w1)); obtain ⟨y0, y1, y2, y3, y4, y5, y6⟩ := HAc.out.all; clear hb1))
  all_goals
    go_wp2_with fail
    go_ret
    exact ⟨rfl, HAc.out.bel⟩

end Go.Proofs.YtdajbcohmnmbpaaGreatDoor
