/- The walks of package clsign: formed, goodTape, integer, minus, message, Message. -/
import Derived.Test.YtkdbemdobfddoaaGreatDoorKd
import Derived.Test.YtkdbemdobfddoaaGreatDoorKf
namespace Go.Proofs.YtkdbemdobfddoaaGreatDoor
open Go.RowKit
set_option maxRecDepth 100000
set_option linter.unusedVariables false
set_option maxHeartbeats 4000000

theorem cl_formed1 (s : ByteArray) (w : World) : Calls Tryz.prog 85 #[.string s] w fun e w' => e = .returned (.bool (!valid s)) ∧ w = w' := by
  go_enter Tryz.func85, Tryz.ntmps85
  go_wp2_with (go_at_call 61; refine (natural_Valid _ _).mono ?_; rintro e w' ⟨rfl, rfl⟩)
  go_ret
  exact ⟨rfl, rfl⟩
theorem cl_index (ls : List ByteArray) (A : Option Addr) (n c b : Nat) (w : World) (hn : ls.length = n) (hm : n ≤ 100000) (h : SLs w b A ls) :
    Calls Tryz.prog 145 #[.slice A n c, .func (.func 85) #[] #[]] w fun e w' => (∃ z : Int, e = .returned (.int .i64 z) ∧ decide (0 ≤ z) = !(ls.all valid)) ∧ w = w' := by
  have HN := Lib.hid hn
  have HS := Lib.hid h
  clear hn h
  go_enter Tryz.func145, Tryz.ntmps145
  go_wp2
  go_loop [8] (fun v => ∃ k : Nat, k ≤ n ∧ v = .int .i64 k ∧ ∀ j, j < k → valid (ls.getD j ByteArray.empty) = true) (fun v => n - (intOf v).toNat)
  case atStart => exact ⟨0, by omega, rfl, fun j h => absurd h (by omega)⟩
  case round =>
    obtain ⟨k, hk, rfl, hall⟩ := hrel
    have HA := Lib.hid hall
    clear hall
    by_cases hlt : k < n
    · obtain ⟨ad, rfl, hc⟩ := HS.out.at_ (k := k) (by rw [HN.out]; exact hlt)
      obtain ⟨s, hs⟩ : ∃ s, ls.getD k ByteArray.empty = s := ⟨_, rfl⟩
      rw [hs] at hc
      have HSS := Lib.hid hs
      clear hs
      cases hv : valid s
      · have HF : Hid (ls.all valid = false) := Lib.hid (ls_all_not (k := k) (by rw [HN.out]; exact hlt) (by rw [HSS.out]; exact hv))
        have hck := cl_formed1 s
        rw [hv] at hck
        have HCK := Lib.hid hck
        clear hck hv
        go_wp2_with (go_at_call 85; refine (HCK.out _).mono ?_; rintro e w' ⟨rfl, rfl⟩)
        go_ret
        refine ⟨⟨(k : Int), rfl, ?_⟩, rfl⟩
        rw [HF.out]
        simp
      · have HV := Lib.hid hv
        clear hv
        have hck := cl_formed1 s
        rw [HV.out] at hck
        have HCK := Lib.hid hck
        clear hck
        go_wp2_with (go_at_call 85; refine (HCK.out _).mono ?_; rintro e w' ⟨rfl, rfl⟩)
        go_round
        case rel => exact ⟨k + 1, by omega, by go_num, fun j hj => by
          by_cases e : j = k
          · subst e; rw [HSS.out]; exact HV.out
          · exact HA.out j (by omega)⟩
        case measure => simp [intOf]; omega
    · obtain rfl : k = n := by omega
      have HF : Hid (ls.all valid = true) := Lib.hid (ls_all_of (fun j hj => HA.out j (by rw [HN.out] at hj; exact hj)))
      go_wp2
      go_ret
      refine ⟨⟨-1, rfl, ?_⟩, rfl⟩
      rw [HF.out]
      rfl
theorem cl_contains (ls : List ByteArray) (A : Option Addr) (n c b : Nat) (w : World) (hn : ls.length = n) (hm : n ≤ 100000) (h : SLs w b A ls) :
    Calls Tryz.prog 84 #[.slice A n c, .func (.func 85) #[] #[]] w fun e w' => e = .returned (.bool (!(ls.all valid))) ∧ w = w' := by
  have H := Lib.hid (cl_index ls A n c b w hn hm h)
  clear h
  go_enter Tryz.func84, Tryz.ntmps84
  go_wp2_with (go_at_call 145; refine H.out.mono ?_; rintro e w' ⟨⟨z, rfl, hz⟩, rfl⟩; have HZ := Lib.hid hz; clear hz)
  go_ret
  exact ⟨ret_bool HZ.out, rfl⟩
theorem cl_formed (ls : List ByteArray) (A : Option Addr) (n c b : Nat) (w : World) (hn : ls.length = n) (hm : n ≤ 100000) (h : SLs w b A ls) :
    Calls Tryz.prog 35 #[.slice A n c] w fun e w' => e = .returned (.bool (ls.all valid)) ∧ w = w' := by
  have H := Lib.hid (cl_contains ls A n c b w hn hm h)
  obtain ⟨bv, hb⟩ : ∃ bv, ls.all valid = bv := ⟨_, rfl⟩
  rw [hb] at H ⊢
  clear hb hn h
  go_enter Tryz.func35, Tryz.ntmps35
  go_wp2_with (go_at_call 84; refine H.out.mono ?_; rintro e w' ⟨rfl, rfl⟩)
  go_ret
  exact ⟨ret_bool (by cases bv <;> rfl), rfl⟩
theorem cl_integer (x : ByteArray) (w : World) : Calls Tryz.prog 56 #[.string x] w fun e w' => e = .returned (.agg #[.bool false, .string x]) ∧ Below w.heap.size w w' := by
  go_enter Tryz.func56, Tryz.ntmps56
  go_wp2
  exact bodyPost_ret (v := .agg #[.bool false, .string x]) (by simp [results, Tryz.results56, go_sem]) rfl ⟨rfl, (Below.refl _ _).alloc (Nat.le_refl _) _⟩
theorem cl_minus (x : ByteArray) (w : World) : Calls Tryz.prog 77 #[.string x] w fun e w' => e = .returned (.agg #[.bool (!x.toList.isEmpty), .string x]) ∧ Below w.heap.size w w' := by
  cases h : x.toList.isEmpty
  · go_enter Tryz.func77, Tryz.ntmps77
    go_wp2
    exact bodyPost_ret (v := .agg #[.bool true, .string x]) (by simp [results, Tryz.results77, go_sem]) rfl ⟨rfl, (Below.refl _ _).alloc (Nat.le_refl _) _⟩
  · go_enter Tryz.func77, Tryz.ntmps77
    go_wp2
    exact bodyPost_ret (v := .agg #[.bool false, .string x]) (by simp [results, Tryz.results77, go_sem]) rfl ⟨rfl, (Below.refl _ _).alloc (Nat.le_refl _) _⟩
theorem cl_goodTape (vals : List ByteArray) (A : Option Addr) (n c : Nat) (seed : ByteArray) (z : Int) (w : World) (hn : vals.length = n) (hm : n ≤ 100000) (h : SLs w w.heap.size A vals) :
    Calls Tryz.prog 42 #[.agg #[.slice A n c, .string seed, .int .i64 z]] w fun e w' => e = .returned (.bool (goodT vals z)) ∧ Below w.heap.size w w' := by
  have hb : Below w.heap.size w (w.alloc (.cells #[.slice A n c, .string seed, .int .i64 z] 48)) := (Below.refl _ _).alloc (Nat.le_refl _) _
  have H := cl_formed vals A n c w.heap.size _ hn hm (h.below hb)
  have HB := Lib.hid hb
  have hr : goodT vals z = (decide (0 ≤ z) && (decide (z ≤ 2147483647) && vals.all valid)) := rfl
  rw [hr]
  obtain ⟨bv, hbv⟩ : ∃ bv, vals.all valid = bv := ⟨_, rfl⟩
  rw [hbv] at H ⊢
  clear hbv hn h hb hr
  cases bv
  · have H := Lib.hid H
    go_enter Tryz.func42, Tryz.ntmps42
    go_wp2_with (go_at_call 35; refine H.out.mono ?_; rintro e w' ⟨rfl, rfl⟩)
    go_ret
    exact ⟨ret_bool (by simp), HB.out⟩
  · have H := Lib.hid H
    by_cases h0 : 0 ≤ z
    · by_cases h1 : z ≤ 2147483647
      · have p0 : decide ((0 : Int) ≤ z) = true := decide_eq_true h0
        have p1 : decide (z ≤ (2147483647 : Int)) = true := decide_eq_true h1
        rw [p0, p1]
        clear h0 h1
        go_enter Tryz.func42, Tryz.ntmps42
        go_wp2_with (go_at_call 35; refine H.out.mono ?_; rintro e w' ⟨rfl, rfl⟩)
        go_ret
        exact ⟨rfl, HB.out⟩
      · have p0 : decide ((0 : Int) ≤ z) = true := decide_eq_true h0
        have p1 : decide (z ≤ (2147483647 : Int)) = false := decide_eq_false h1
        rw [p0, p1]
        clear h0 h1
        go_enter Tryz.func42, Tryz.ntmps42
        go_wp2_with (go_at_call 35; refine H.out.mono ?_; rintro e w' ⟨rfl, rfl⟩)
        go_ret
        exact ⟨rfl, HB.out⟩
    · have p0 : decide ((0 : Int) ≤ z) = false := decide_eq_false h0
      rw [p0]
      clear h0
      go_enter Tryz.func42, Tryz.ntmps42
      go_wp2_with (go_at_call 35; refine H.out.mono ?_; rintro e w' ⟨rfl, rfl⟩)
      go_ret
      exact ⟨rfl, HB.out⟩

end Go.Proofs.YtkdbemdobfddoaaGreatDoor
