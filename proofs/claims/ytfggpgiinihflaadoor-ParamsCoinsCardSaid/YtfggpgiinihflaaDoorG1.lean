/- The walks of package rsagroup: the form of a group. -/
import Derived.Test.YtfggpgiinihflaaDoorW4
namespace Go.Proofs.YtfggpgiinihflaaDoor
open Go.RowKit
set_option maxRecDepth 100000
set_option linter.unusedVariables false
set_option maxHeartbeats 400000

theorem below2 {w w1 w2 : World} (h1 : Below w.heap.size w w1) (h2 : Below w1.heap.size w1 w2) : Below w.heap.size w w2 := h1.trans (h2.mono h1.size)
theorem below_box {w w2 : World} {o : Obj} (h2 : Below (w.heap.size + 1) (w.alloc o) w2) : Below w.heap.size w w2 := ((Below.refl _ _).alloc (Nat.le_refl _) _).trans (h2.mono (by omega))
theorem bcell {W w1 : World} (hb : Below W.heap.size W w1) : (∀ b o, b < W.heap.size → w1.cell? ⟨b, o, none⟩ = W.cell? ⟨b, o, none⟩) ∧ (∀ b o, b < W.heap.size → w1.frozen? ⟨b, o, none⟩ = W.frozen? ⟨b, o, none⟩) :=
  ⟨fun b o h => hb.cell (p := ⟨b, o, none⟩) h, fun b o h => hb.frozen (p := ⟨b, o, none⟩) h⟩
theorem quiet_of_eq {P : Program} {f : FuncId} {args : Array Value} {w : World} {n : Nat} {v : Value}
    (h : Calls P f args (w.drewN n) fun e w' => e = .returned v ∧ w.drewN n = w') : Calls P f args (w.drewN n) fun e w'' => e = .returned v ∧ ∃ m, w'' = w.drewN m :=
  h.mono fun _ _ ⟨he, hm⟩ => ⟨he, n, hm.symm⟩
theorem below_drewN {B : Nat} {a w : World} (h : Below B a w) (n : Nat) : Below B a (w.drewN n) := ⟨h.os, h.tape, h.output, h.size, h.block⟩
/-- Whether a group has the form of one of unknown order. -/
def goodS (m o : ByteArray) : Bool := valid m && o.toList.isEmpty && natBit m 0 && decide (0 < natCmp m (B 8))
theorem rsagroup_good (m o : ByteArray) (w : World) (sm : m.size ≤ 100000) :
    Calls Tryd.prog 34 #[.agg #[.string m, .string o]] w fun e w' => e = .returned (.bool (goodS m o)) ∧ Below w.heap.size w w' := by
  have hr : goodS m o = (valid m && o.toList.isEmpty && natBit m 0 && decide (0 < natCmp m (B 8))) := rfl
  have HR := Lib.hid hr
  clear hr
  cases h1 : valid m
  · go_enter Tryd.func34, Tryd.ntmps34
    go_wp2_with fail
    go_quiet ((go_at_call 33; exact quiet_of_eq (natural_Valid _ _)))
    go_wp2_with fail
    go_ret
    exact ⟨ret_bool (by rw [HR.out, h1]; rfl), below_drewN ((Below.refl _ _).alloc (Nat.le_refl _) _) _⟩
  · cases h2 : o.toList.isEmpty
    · go_enter Tryd.func34, Tryd.ntmps34
      go_wp2_with fail
      go_quiet ((go_at_call 33; exact quiet_of_eq (natural_Valid _ _)))
      go_wp2_with fail
      go_ret
      exact ⟨ret_bool (by rw [HR.out, h1, h2]; rfl), below_drewN ((Below.refl _ _).alloc (Nat.le_refl _) _) _⟩
    · cases h3 : natBit m 0
      · go_enter Tryd.func34, Tryd.ntmps34
        go_wp2_with fail
        go_quiet ((first | (go_at_call 33; exact quiet_of_eq (natural_Valid _ _)) | (go_at_call 50; exact quiet_of_eq (natural_Bit m 0 0 _ rfl (by omega) sm))))
        go_wp2_with fail
        go_ret
        exact ⟨ret_bool (by rw [HR.out, h1, h2, h3]; rfl), below_drewN ((Below.refl _ _).alloc (Nat.le_refl _) _) _⟩
      · go_enter Tryd.func34, Tryd.ntmps34
        go_wp2_with fail
        go_region_with (first | (go_at_call 33; refine (natural_Valid _ _).mono ?_; rintro e w' ⟨rfl, rfl⟩) | (go_at_call 50; refine (natural_Bit m 0 0 _ rfl (by omega) sm).mono ?_; rintro e w' ⟨rfl, rfl⟩) | (go_at_call 37; (with_reducible refine (natural_Of' 8 8 _ rfl (by decide)).mono ?_); rintro e w' ⟨rfl, hb1⟩; have hcw := (bcell hb1).1) | (go_at_call 43; refine (natural_Cmp _ _ _).mono ?_; rintro e w' ⟨rfl, rfl⟩))
        all_goals
          clear hcw
          go_wp2_with fail
          go_ret
          exact ⟨ret_bool (by rw [HR.out, h1, h2, h3]; rfl), ((Below.refl w.heap.size w).alloc (Nat.le_refl _) _).drew.trans (hb1.mono (by simp))⟩

end Go.Proofs.YtfggpgiinihflaaDoor
