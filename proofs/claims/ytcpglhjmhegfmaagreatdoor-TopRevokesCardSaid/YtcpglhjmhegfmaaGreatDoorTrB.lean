/- TopRevokes: sortedNats ends and hands back some row of its own. -/
import Derived.Test.YtcpglhjmhegfmaaGreatDoorTrA
import Derived.Deep.RegionLaw
namespace Go.Proofs.YtcpglhjmhegfmaaGreatDoor
open Go.RowKit
set_option maxRecDepth 100000
set_option linter.unusedVariables false
set_option maxHeartbeats 4000000

theorem nat_infoE : ∃ i : TypeInfo, Tryz.prog.info? 22 = some i ∧ i.zero = some (.string ByteArray.empty) ∧ i.size = 1 ∧ i.bytes = 16 := by
  obtain ⟨i, h1, h2, h3, h4⟩ := info_parts nat_info
  exact ⟨i, h1, h2, h3, h4⟩
theorem strs_one (N : List ByteArray) : ∀ v ∈ N.map Value.string, v.oneCell' = true := fun v hv => by
  obtain ⟨y, _, rfl⟩ := List.mem_map.1 hv
  rfl
theorem OwnS.blockOf {w : World} {base n : Nat} {v : Value} {ls : List ByteArray} (h : OwnS w base v n ls) : ∀ k, v.ownBlock = some k → base ≤ k ∧ k < w.heap.size := by
  intro k hk
  rcases h.2.2 with ⟨rfl, _⟩ | ⟨g, cap, cur, rfl, h1, hg, rest⟩
  · cases hk
  · cases hk
    exact ⟨h1, (Array.getElem?_eq_some_iff.1 hg).1⟩
/-- append of one new string onto a row of the call's own. -/
theorem wpList_append_1 {w : World} {ops : Array Oper} {rest : List Oper} {o : Oper} {a : Act} {Q : Exit → Act → World → Prop} (hgd : o.guard = none) (s x : Operand)
    (ho : o.op = .call { callee := .builtin .append, args := #[s, x], argTypes := #[25, 25] })
    (base : Nat) (v : Value) (n : Nat) (ls : List ByteArray) (hs : a.eval s = v) (hown : OwnS w base v n ls) (y : ByteArray)
    (T : TypeId) (hx : a.eval x = .slice (some ⟨w.heap.size, 0, none⟩) 1 1) (hsz : n ≤ 100000) (hbase : base ≤ w.heap.size)
    (h : ∀ v' w', OwnS w' base v' (n + 1) (ls ++ [y]) → (w.alloc (.cells #[.string y] T)).grownBy w' v.ownBlock → Below base w w' → wpList Tryz.prog ops Q rest (a.put o.dst v') w') :
    wpList Tryz.prog ops Q (o :: rest) a (w.alloc (.cells #[.string y] T)) := by
  obtain ⟨i, hi, hz, hs1, hb1⟩ := nat_infoE
  have hk : OwnS (w.alloc (.cells #[.string y] T)) base v n ls := hown.kept (B := 0) ((Below.refl _ _).alloc (Nat.le_refl _) _)
  have hr : Reads (w.alloc (.cells #[.string y] T)) (w.heap.size + 1) 1 (some ⟨w.heap.size, 0, none⟩) 1 ([y].map Value.string) := (SLs.new w T [y] (w.heap.size + 1) (by omega)).reads (n := 1) rfl
  have hb : base ≤ (w.alloc (.cells #[.string y] T)).heap.size := by simp; omega
  refine wpList_append_any _ hgd s x 25 ho base 22 i (.string ByteArray.empty) 1 16 Tryz.underlying25 hi hz hs1 hb1 rfl (by decide) v n (ls.map Value.string) hs hk.2 (w.heap.size + 1) _ 1 1 ([y].map Value.string) hx hr (strs_one [y]) (by unfold maxLen; omega) (by omega) hb ?_
  intro v' w' h2 h3 _
  refine h v' w' ⟨by rw [List.length_append, hown.1]; rfl, by rw [List.map_append]; exact h2⟩ h3 ?_
  exact ((Below.refl base w).alloc hbase _).trans (below_grown h3 hb (fun k hk' => (hown.blockOf k hk').1))
/-- The cells of a row of the call's own. -/
theorem OwnS.cellAt {w : World} {base g n cap j : Nat} {L : List ByteArray} (h : OwnS w base (.slice (some ⟨g, 0, none⟩) n cap) n L) (hj : j < n) : ∃ x, L[j]? = some x ∧ w.cell? ⟨g, j, none⟩ = some (.string x) ∧ w.frozen? ⟨g, j, none⟩ = false := by
  have hl := h.1
  refine ⟨L[j]'(by omega), List.getElem?_eq_getElem (by omega), ?_, h.2.frozenAt j⟩
  rw [h.2.cellAt j (by omega), List.getElem?_map, List.getElem?_eq_getElem (by omega)]
  rfl
theorem OwnS.put {w : World} {base g n cap : Nat} {L : List ByteArray} (h : OwnS w base (.slice (some ⟨g, 0, none⟩) n cap) n L) (j : Nat) (x : ByteArray) : OwnS (w.setCell ⟨g, j, none⟩ (.string x)) base (.slice (some ⟨g, 0, none⟩) n cap) n (L.set j x) :=
  ⟨by rw [List.length_set]; exact h.1, by rw [List.map_set]; exact (h.2.stored j _).1⟩
theorem OwnS.putBelow {w a : World} {base g n cap : Nat} {L : List ByteArray} (h : OwnS w base (.slice (some ⟨g, 0, none⟩) n cap) n L) (hb : Below base a w) (j : Nat) (x : Value) : Below base a (w.setCell ⟨g, j, none⟩ x) :=
  hb.setCell (p := ⟨g, j, none⟩) (h.blockOf g rfl).1 x
/-- Some row of the call's own. -/
structure RowN (B n : Nat) (v : Value) (w wr : World) : Prop where
  own : ∃ L, OwnS wr B v n L
  bel : Below B w wr
theorem wrap_pred {i : Nat} (h : i < 1000000) : IntKind.i64.wrap ((((i + 1 : Nat) : Int)) - 1) = (i : Int) := by
  rw [IntKind.wrap_i64]; omega
theorem RowN.swap {B n g cap : Nat} {w wr : World} {L : List ByteArray} (h : OwnS wr B (.slice (some ⟨g, 0, none⟩) n cap) n L) (hb : Below B w wr) (q i j : Nat) (x0 x1 : ByteArray) :
    RowN B n (.slice (some ⟨g, 0, none⟩) n cap) w (((wr.drewN q).setCell ⟨g, j, none⟩ (.string x0)).setCell ⟨g, i, none⟩ (.string x1)) := by
  have h0 : OwnS (wr.drewN q) B (.slice (some ⟨g, 0, none⟩) n cap) n L := h
  have h1 := h0.put j x0
  exact ⟨⟨_, h1.put i x1⟩, h1.putBelow (h0.putBelow (below_drewN hb q) j _) i _⟩
theorem top_sorted (ls : List ByteArray) (A : Option Addr) (n c : Nat) (w : World) (hn : ls.length = n) (hm : n ≤ 100) (hs : SLs w w.heap.size A ls) :
    Calls Tryz.prog 20 #[.slice A n c] w fun e w' => (∃ A' n' c', e = .returned (.slice A' n' c')) ∧ Below w.heap.size w w' := by
  have HN := Lib.hid hn
  have HS := Lib.hid hs
  have HCMP := Lib.hid natural_Cmp
  clear hn hs
  go_enter Tryz.func20, Tryz.ntmps20
  go_wp2
  obtain ⟨B, hB⟩ : ∃ B, w.heap.size = B := ⟨_, rfl⟩
  rw [hB] at HS
  have HB := Lib.hid hB
  have hr0 : RowN B 0 (.slice none 0 0) w w := ⟨⟨[], OwnS.nil_ _ _⟩, Below.refl _ _⟩
  have HR0 := Lib.hid hr0
  clear hB hr0
  go_loopw [3, 4] (fun v3 v wr => ∃ (k : Nat) (A' : Option Addr) (c' : Nat), v3 = .slice A' k c' ∧ v = .int .i64 k ∧ k ≤ n ∧ RowN B k (.slice A' k c') w wr) (fun _ v _ => n - (intOf v).toNat)
  case atStart => exact ⟨0, none, 0, rfl, rfl, Nat.zero_le _, HR0.out⟩
  case round =>
    obtain ⟨k, A', c', rfl, rfl, hk, ⟨L, hown⟩, hbel⟩ := hrel
    have HOWN := Lib.hid hown
    have HBEL := Lib.hid hbel
    clear hown hbel
    by_cases hlt : k < n
    · obtain ⟨ad, rfl, hc⟩ := (HS.out.below HBEL.out).at_ (k := k) (by rw [HN.out]; exact hlt)
      obtain ⟨x, hx⟩ : ∃ x, ls.getD k ByteArray.empty = x := ⟨_, rfl⟩
      rw [hx] at hc
      have HLT := Lib.hid hlt
      have HK := Lib.hid hk
      have HSZ := Lib.hid (show B ≤ wr.heap.size from by have := HBEL.out.size; have := HB.out; omega)
      clear hx
      go_wp2_with (at_builtin; refine wpList_append_1 rfl (.tmp 14) (.tmp 19) rfl B (.slice A' k c') k L rfl HOWN.out x 22 rfl (by omega) HSZ.out ?_; intro v5 w5 hown5 hg5 hb5; have HR5 := Lib.hid (RowN.mk ⟨_, hown5⟩ (HBEL.out.trans hb5)); obtain ⟨g, cap, rfl, _, _⟩ := hown5.2.form (by omega); clear hown5 hg5 hb5)
      go_loopw [5] (fun v wq => ∃ j : Nat, v = .int .i64 j ∧ j ≤ k ∧ RowN B (k + 1) (.slice (some ⟨g, 0, none⟩) (k + 1) cap) w wq) (fun v _ => (intOf v).toNat)
      case atStart => exact ⟨k, rfl, Nat.le_refl _, HR5.out⟩
      case round =>
        obtain ⟨j, rfl, hj, ⟨L', hown⟩, hbel⟩ := hrel
        have HOW := Lib.hid hown
        have HBE := Lib.hid hbel
        clear hown hbel
        have HJ := Lib.hid hj
        rcases Nat.eq_zero_or_pos j with h0 | h0
        · have k0 : decide ((0 : Int) < (j : Int)) = false := decide_eq_false (by omega)
          have k0' : decide (0 < j) = false := decide_eq_false (by omega)
          clear hj h0
          go_wp2_with fail
          go_quiet (fail)
          go_wp2_with fail
          go_roundw
          case rel => exact ⟨k + 1, _, _, rfl, rfl, HLT.out, ⟨⟨_, HOW.out⟩, below_drewN HBE.out _⟩⟩
          case measure => have := HLT.out; simp only [intOf]; omega
        · have k0 : decide ((0 : Int) < (j : Int)) = true := decide_eq_true (by omega)
          have k0' : decide (0 < j) = true := decide_eq_true (by omega)
          obtain ⟨i, hi⟩ : ∃ i, j = i + 1 := ⟨j - 1, by omega⟩
          obtain ⟨x1, hx1, c1, f1⟩ := HOW.out.cellAt (j := j) (by omega)
          obtain ⟨x0, hx0, c0, f0⟩ := HOW.out.cellAt (j := i) (by omega)
          have hi1 : IntKind.i64.wrap ((j : Int) - 1) = (i : Int) := by rw [hi, IntKind.wrap_i64]; omega
          have hw1 : wrap64 ((j : Int) - 1) = (i : Int) := by rw [hi]; unfold wrap64; omega
          have hjl : j < k + 1 := by omega
          have hil : i < k + 1 := by omega
          have hne : i ≠ j := by omega
          have q1 : (i : Int) < (k : Int) + 1 := by omega
          have q2 : (j : Int) < (k : Int) + 1 := by omega
          have HI := Lib.hid hi
          have hcm := fun W => HCMP.out x1 x0 W
          obtain ⟨cv, hcv⟩ : ∃ cv, natCmp x1 x0 = cv := ⟨_, rfl⟩
          rw [hcv] at hcm
          have HCM := Lib.hid hcm
          clear hj h0 hi hcm hcv hx1 hx0
          by_cases hc0 : cv < 0
          · have k1 : decide (cv < 0) = true := decide_eq_true hc0
            clear hc0
            go_wp2_with fail
            go_quiet ((go_at_call 33; exact quiet_of_eq (HCM.out _)))
            go_wp2_with fail
            go_region_law (fail)
            all_goals
              go_wp2_with fail
              exact ⟨⟨i, rfl, by have := HJ.out; have := HI.out; omega, RowN.swap HOW.out HBE.out _ _ _ _ _⟩, by have := HI.out; simp only [intOf]; omega⟩
          · have k1 : decide (cv < 0) = false := decide_eq_false hc0
            clear hc0
            go_wp2_with fail
            go_quiet ((go_at_call 33; exact quiet_of_eq (HCM.out _)))
            go_wp2_with fail
            go_roundw
            case rel => exact ⟨k + 1, _, _, rfl, rfl, HLT.out, ⟨⟨_, HOW.out⟩, below_drewN HBE.out _⟩⟩
            case measure => have := HLT.out; simp only [intOf]; omega
    · obtain rfl : k = n := by omega
      go_wp2_with fail
      go_ret
      exact ⟨⟨_, _, _, rfl⟩, by rw [HB.out]; exact HBEL.out⟩

end Go.Proofs.YtcpglhjmhegfmaaGreatDoor
