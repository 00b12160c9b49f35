/- The law AccumulatorOrders: it returns true. -/
import Derived.Test.YtlppcnjaacbhpaaGreatDoorUB
namespace Go.Proofs.YtlppcnjaacbhpaaGreatDoor
open Go.RowKit
set_option maxRecDepth 100000
set_option linter.unusedVariables false
set_option maxHeartbeats 1000000

/-- A key's block, whole; the table; the rest as before. -/
structure KbAt (w : World) (kn z s r h : Value) (m o u : ByteArray) (wx : World) : Prop where
  blk : wx.heap[w.heap.size]? = some (.cells #[kn, .string m, .string o, z, s, r, .string u, h] 27 (0, 0))
  tab : Tab wx
  below : Below w.heap.size w wx
  size : w.heap.size < wx.heap.size
section
variable {w wx w' : World} {kn z s r h : Value} {m o u : ByteArray}
theorem KbAt.next (k : KbAt w kn z s r h m o u wx) (hb : Below wx.heap.size wx w') : KbAt w kn z s r h m o u w' :=
  ⟨(hb.block _ k.size).trans k.blk, k.tab.below hb, below2 k.below hb, Nat.lt_of_lt_of_le k.size hb.size⟩
theorem KbAt.alloc (k : KbAt w kn z s r h m o u wx) (ob : Obj) : KbAt w kn z s r h m o u (wx.alloc ob) := k.next ((Below.refl _ _).alloc (Nat.le_refl _) _)
theorem KbAt.drew (k : KbAt w kn z s r h m o u wx) : KbAt w kn z s r h m o u wx.drew := k.next ((Below.refl _ _).drew)
theorem KbAt.box (hT : Tab w) : KbAt w kn z s r h m o u (w.alloc (.cells #[kn, .string m, .string o, z, s, r, .string u, h] 27)) :=
  ⟨heap_alloc_new w _, hT.alloc _, (Below.refl _ _).alloc (Nat.le_refl _) _, by simp⟩
theorem KbAt.all (k : KbAt w kn z s r h m o u wx) : wx.cell? ⟨w.heap.size, 0, none⟩ = some kn ∧ wx.cell? ⟨w.heap.size, 1, none⟩ = some (.string m) ∧ wx.cell? ⟨w.heap.size, 2, none⟩ = some (.string o) ∧ wx.cell? ⟨w.heap.size, 3, none⟩ = some z ∧ wx.cell? ⟨w.heap.size, 4, none⟩ = some s ∧ wx.cell? ⟨w.heap.size, 5, none⟩ = some r ∧ wx.cell? ⟨w.heap.size, 6, none⟩ = some (.string u) ∧ wx.cell? ⟨w.heap.size, 7, none⟩ = some h :=
  ⟨cell_of_row wx _ 0 _ _ _ k.blk, cell_of_row wx _ 1 _ _ _ k.blk, cell_of_row wx _ 2 _ _ _ k.blk, cell_of_row wx _ 3 _ _ _ k.blk, cell_of_row wx _ 4 _ _ _ k.blk, cell_of_row wx _ 5 _ _ _ k.blk, cell_of_row wx _ 6 _ _ _ k.blk, cell_of_row wx _ 7 _ _ _ k.blk⟩
theorem KbAt.sls {A : Option Addr} {ls : List ByteArray} (k : KbAt w kn z s r h m o u wx) (hs : SLs w w.heap.size A ls) : SLs wx wx.heap.size A ls := (hs.below k.below).more k.below.size
end
def fewKeyS (m o u : ByteArray) : Bool := decide (m.size ≤ 8) && (decide (o.size ≤ 8) && decide (u.size ≤ 12))
theorem law35_FewKey (kn z s r h : Value) (m o u : ByteArray) (w : World) :
    Calls Tryz.prog 7 #[.agg #[kn, .string m, .string o, z, s, r, .string u, h]] w fun e w' => e = .returned (.bool (fewKeyS m o u)) ∧ Below w.heap.size w w' := by
  have hr : fewKeyS m o u = (decide (m.size ≤ 8) && (decide (o.size ≤ 8) && decide (u.size ≤ 12))) := rfl
  have HR := Lib.hid hr
  clear hr
  by_cases h1 : m.size ≤ 8
  · by_cases h2 : o.size ≤ 8
    · by_cases h3 : u.size ≤ 12
      · have k1 : decide ((m.size : Int) ≤ 8) = true := decide_eq_true (by omega)
        have k2 : decide ((o.size : Int) ≤ 8) = true := decide_eq_true (by omega)
        have k3 : decide ((u.size : Int) ≤ 12) = true := decide_eq_true (by omega)
        have HF : Hid (fewKeyS m o u = true) := Lib.hid (by rw [HR.out, decide_eq_true h1, decide_eq_true h2, decide_eq_true h3]; rfl)
        clear h1 h2 h3
        go_enter Tryz.func7, Tryz.ntmps7
        go_wp2
        go_ret
        exact ⟨ret_bool HF.out.symm, (Below.refl _ _).alloc (Nat.le_refl _) _⟩
      · have k1 : decide ((m.size : Int) ≤ 8) = true := decide_eq_true (by omega)
        have k2 : decide ((o.size : Int) ≤ 8) = true := decide_eq_true (by omega)
        have k3 : decide ((u.size : Int) ≤ 12) = false := decide_eq_false (by omega)
        have HF : Hid (fewKeyS m o u = false) := Lib.hid (by rw [HR.out, decide_eq_true h1, decide_eq_true h2, decide_eq_false h3]; rfl)
        clear h1 h2 h3
        go_enter Tryz.func7, Tryz.ntmps7
        go_wp2
        go_ret
        exact ⟨ret_bool HF.out.symm, (Below.refl _ _).alloc (Nat.le_refl _) _⟩
    · have k1 : decide ((m.size : Int) ≤ 8) = true := decide_eq_true (by omega)
      have k2 : decide ((o.size : Int) ≤ 8) = false := decide_eq_false (by omega)
      have HF : Hid (fewKeyS m o u = false) := Lib.hid (by rw [HR.out, decide_eq_true h1, decide_eq_false h2]; rfl)
      clear h1 h2
      go_enter Tryz.func7, Tryz.ntmps7
      go_wp2
      go_ret
      exact ⟨ret_bool HF.out.symm, (Below.refl _ _).alloc (Nat.le_refl _) _⟩
  · have k1 : decide ((m.size : Int) ≤ 8) = false := decide_eq_false (by omega)
    have HF : Hid (fewKeyS m o u = false) := Lib.hid (by rw [HR.out, decide_eq_false h1]; rfl)
    clear h1
    go_enter Tryz.func7, Tryz.ntmps7
    go_wp2
    go_ret
    exact ⟨ret_bool HF.out.symm, (Below.refl _ _).alloc (Nat.le_refl _) _⟩
/-- At most twelve numbers, the first twenty of at most 8 bytes. -/
def fewLS (ls : List ByteArray) : Bool := (ls.take 20).all (fun s => decide (s.size ≤ 8)) && decide (ls.length ≤ 12)
theorem law35_few (ls : List ByteArray) (A : Option Addr) (n c b : Nat) (w : World) (hn : ls.length = n) (hm : n ≤ maxLen) (hs : SLs w b A ls) :
    Calls Tryz.prog 8 #[.slice A n c] w fun e w' => e = .returned (.bool (fewLS ls)) ∧ w = w' := by
  have hr : fewLS ls = ((ls.take 20).all (fun s => decide (s.size ≤ 8)) && decide (ls.length ≤ 12)) := rfl
  have HR := Lib.hid hr
  have HN := Lib.hid hn
  have HS := Lib.hid hs
  unfold maxLen at hm
  clear hr hn hs
  go_enter Tryz.func8, Tryz.ntmps8
  go_wp2
  go_loop [3] (fun v => ∃ k : Nat, v = .int .i64 k ∧ k ≤ n ∧ k ≤ 20 ∧ ∀ j, j < k → decide ((ls.getD j ByteArray.empty).size ≤ 8) = true) (fun v => n - (intOf v).toNat)
  case atStart => exact ⟨0, rfl, Nat.zero_le _, by decide, fun j h => absurd h (Nat.not_lt_zero _)⟩
  case round =>
    obtain ⟨k, rfl, hk, hk2, hall⟩ := hrel
    have HA := Lib.hid hall
    clear hall
    have htk : ∀ j, j < (ls.take 20).length → (ls.take 20).getD j ByteArray.empty = ls.getD j ByteArray.empty := fun j hj => by
      rw [sgetD_lt hj, List.getElem_take, sgetD_lt (by rw [List.length_take] at hj; omega)]
    have HTK := Lib.hid htk
    clear htk
    by_cases hlt : k < n ∧ k < 20
    · obtain ⟨ad, rfl, hc⟩ := HS.out.at_ (k := k) (by rw [HN.out]; exact hlt.1)
      obtain ⟨x, hx⟩ : ∃ x, ls.getD k ByteArray.empty = x := ⟨_, rfl⟩
      rw [hx] at hc
      have HX := Lib.hid hx
      have k1 : decide (k < n) = true := decide_eq_true hlt.1
      have k2 : decide ((k : Int) < 20) = true := decide_eq_true (by omega)
      have HLT := Lib.hid hlt
      have hkn := hlt.1
      clear hx hlt
      by_cases h8 : x.size ≤ 8
      · have k3 : decide ((8 : Int) < (x.size : Int)) = false := decide_eq_false (by omega)
        have H8 := Lib.hid h8
        clear h8
        go_wp2
        go_round
        case rel => exact ⟨k + 1, by go_num, HLT.out.1, HLT.out.2, fun j hj => by
          by_cases e : j = k
          · subst e; rw [HX.out]; exact decide_eq_true H8.out
          · exact HA.out j (by omega)⟩
        case measure => have := HLT.out.1; simp [intOf]; omega
      · have k3 : decide ((8 : Int) < (x.size : Int)) = true := decide_eq_true (by omega)
        have HF : Hid (fewLS ls = false) := Lib.hid (by
          rw [HR.out, all_not' (k := k) (by rw [List.length_take, HN.out]; have := HLT.out; omega) (by rw [HTK.out k (by rw [List.length_take, HN.out]; have := HLT.out; omega), HX.out]; exact decide_eq_false h8)]
          rfl)
        clear h8
        go_wp2
        go_ret
        exact ⟨ret_bool HF.out.symm, rfl⟩
    · have HAL : Hid ((ls.take 20).all (fun s => decide (s.size ≤ 8)) = true) := Lib.hid (all_of' (fun j hj => by
        rw [HTK.out j hj]
        rw [List.length_take, HN.out] at hj
        exact HA.out j (by omega)))
      by_cases h12 : n ≤ 12
      · have hkn : k = n := by omega
        have k4 : decide ((n : Int) ≤ 12) = true := decide_eq_true (by omega)
        have HF : Hid (fewLS ls = true) := Lib.hid (by rw [HR.out, HAL.out, HN.out, decide_eq_true h12]; rfl)
        subst hkn
        clear h12 hlt
        go_wp2
        go_ret
        exact ⟨ret_bool HF.out.symm, rfl⟩
      · have k4 : decide ((n : Int) ≤ 12) = false := decide_eq_false (by omega)
        have HF : Hid (fewLS ls = false) := Lib.hid (by rw [HR.out, HAL.out, HN.out, decide_eq_false h12]; rfl)
        have k5 : decide (k < n) = false ∨ (decide (k < n) = true ∧ decide ((k : Int) < 20) = false) := by
          by_cases hh : k < n
          · exact .inr ⟨decide_eq_true hh, decide_eq_false (by omega)⟩
          · exact .inl (decide_eq_false hh)
        clear h12 hlt
        rcases k5 with k5 | ⟨k5, k6⟩
        · go_wp2
          go_ret
          exact ⟨ret_bool HF.out.symm, rfl⟩
        · go_wp2
          go_ret
          exact ⟨ret_bool HF.out.symm, rfl⟩

end Go.Proofs.YtlppcnjaacbhpaaGreatDoor
