/- The walks of primegroup.IsGenerator and of the reference's: both are Has and not 1. The walks on parameters: Numbers of the reference, less, unit, numbers. The walks on parameters: Short of the law file. The walks of package params: the closures of Check and Sizes. The walks of the reference on parameters: Add, Mul where nothing overflows; Sizes over the error of Check. The walk of the reference's Sizes over the error of Check. -/
import Derived.Test.YtdajbcohmnmbpaaGreatDoorSE
import Derived.Test.YtdajbcohmnmbpaaGreatDoorRG
import Derived.Test.YtdajbcohmnmbpaaGreatDoorBW
import Derived.Test.YtdajbcohmnmbpaaGreatDoorRA
namespace Go.Proofs.YtdajbcohmnmbpaaGreatDoor
open Go.RowKit
set_option maxRecDepth 100000
set_option linter.unusedVariables false
set_option maxHeartbeats 1000000

/-- Whether a number generates a group of prime order. -/
def genS (m o x : ByteArray) : Bool := pgHas m o x && !(x.toList == [1])
theorem box2 (w : World) (m o : ByteArray) : Below w.heap.size w (w.alloc (.cells #[.string m, .string o] 30)) := (Below.refl _ _).alloc (Nat.le_refl _) _
theorem pg_IsGen (m o x : ByteArray) (w : World) (sm : m.size ≤ 8) :
    Calls Tryz.prog 146 #[.agg #[.string m, .string o], .string x] w fun e w' => e = .returned (.bool (genS m o x)) ∧ Below w.heap.size w w' := by
  have KH := Lib.hid (fun w => primegroup_Has m o x w sm)
  have HB := Lib.hid (box2 w m o)
  have hr : genS m o x = (pgHas m o x && !(x.toList == [1])) := rfl
  have HR := Lib.hid hr
  obtain ⟨b, hb⟩ : ∃ b, b = pgHas m o x := ⟨_, rfl⟩
  rw [← hb] at KH HR
  clear sm hr hb
  cases b
  · have HR2 : Hid (genS m o x = false) := Lib.hid (by rw [HR.out]; rfl)
    go_enter Tryz.func146, Tryz.ntmps146
    go_wp2_with (first | (go_at_call 198; (with_reducible refine (KH.out _).mono ?_); rintro e w1 ⟨rfl, hb1⟩))
    go_ret
    exact ⟨ret_bool HR2.out.symm, HB.out.trans (hb1.mono HB.out.size)⟩
  · have HR2 : Hid (genS m o x = !(x.toList == [1])) := Lib.hid (by rw [HR.out]; rfl)
    go_enter Tryz.func146, Tryz.ntmps146
    go_wp2_with (first | (go_at_call 198; (with_reducible refine (KH.out _).mono ?_); rintro e w1 ⟨rfl, hb1⟩))
    go_ret
    exact ⟨ret_bool (by rw [HR2.out] <;> simp [bne]), HB.out.trans (hb1.mono HB.out.size)⟩
theorem r09_IsGen (m o x : ByteArray) (w : World) (sm : m.size ≤ 8) :
    Calls Tryz.prog 156 #[.agg #[.string m, .string o], .string x] w fun e w' => e = .returned (.bool (genS m o x)) ∧ Below w.heap.size w w' := by
  have KH := Lib.hid (fun w => r09_Has m o x w sm)
  have HB := Lib.hid (box2 w m o)
  have hr : genS m o x = (pgHas m o x && !(x.toList == [1])) := rfl
  have HR := Lib.hid hr
  obtain ⟨b, hb⟩ : ∃ b, b = pgHas m o x := ⟨_, rfl⟩
  rw [← hb] at KH HR
  clear sm hr hb
  cases b
  · have HR2 : Hid (genS m o x = false) := Lib.hid (by rw [HR.out]; rfl)
    go_enter Tryz.func156, Tryz.ntmps156
    go_wp2_with (first | (go_at_call 208; (with_reducible refine (KH.out _).mono ?_); rintro e w1 ⟨rfl, hb1⟩))
    go_ret
    exact ⟨ret_bool HR2.out.symm, HB.out.trans (hb1.mono HB.out.size)⟩
  · have HR2 : Hid (genS m o x = !(x.toList == [1])) := Lib.hid (by rw [HR.out]; rfl)
    go_enter Tryz.func156, Tryz.ntmps156
    go_wp2_with (first | (go_at_call 208; (with_reducible refine (KH.out _).mono ?_); rintro e w1 ⟨rfl, hb1⟩))
    go_ret
    exact ⟨ret_bool (by rw [HR2.out] <;> simp [bne]), HB.out.trans (hb1.mono HB.out.size)⟩

end Go.Proofs.YtdajbcohmnmbpaaGreatDoor

namespace Go.Proofs.YtdajbcohmnmbpaaGreatDoor
open Go.RowKit
set_option maxRecDepth 100000
set_option linter.unusedVariables false
set_option maxHeartbeats 4000000

theorem r11_less (a b : ByteArray) (w : World) (ha : valid a = true) (hb : valid b = true) :
    Calls Tryz.prog 158 #[.string a, .string b] w fun e w' => e = .returned (.bool (decide (num a < num b))) ∧ Below w.heap.size w w' := by
  have KC := Lib.hid (fun w => r01_Cmp a b w)
  rw [show natCmp a b = cmpN (num a) (num b) from by unfold natCmp; rw [ha, hb]; rfl] at KC
  have hc := cmpN_neg (x := num a) (y := num b)
  obtain ⟨y, hy⟩ : ∃ y, y = cmpN (num a) (num b) := ⟨_, rfl⟩
  rw [← hy] at KC hc
  have HR := Lib.hid (show decide (y < 0) = decide (num a < num b) from decide_eq_decide.2 hc)
  clear ha hb hc hy
  go_enter Tryz.func158, Tryz.ntmps158
  go_wp2_with (first | (go_at_call 95; (with_reducible refine (KC.out _).mono ?_); rintro e w1 ⟨rfl, hb1⟩))
  go_ret
  exact ⟨ret_bool HR.out, hb1⟩
theorem r01_OfL (i : Int) (n : Nat) (w : World) (h : i = (n : Int)) (hn : n < 18446744073709551616) : Calls Tryz.prog 54 #[.int .u64 i] w fun e w' => e = .returned (.string (B n)) ∧ Below w.heap.size w w' := by
  subst h
  exact r01_Of n w hn
/-- Whether a number is a unit greater than 1. -/
def unitS (m o x : ByteArray) : Bool := hasS m o x && !(x.toList == (B 1).toList)
theorem r11_unit (m o x : ByteArray) (w : World) (sm : m.size ≤ 8) :
    Calls Tryz.prog 159 #[.agg #[.string m, .string o], .string x] w fun e w' => e = .returned (.bool (unitS m o x)) ∧ Below w.heap.size w w' := by
  have KH := Lib.hid (fun w => r10_Has m o x w sm)
  have HB := Lib.hid (box2 w m o)
  have hr : unitS m o x = (hasS m o x && !(x.toList == (B 1).toList)) := rfl
  have HR := Lib.hid hr
  obtain ⟨b, hb⟩ : ∃ b, b = hasS m o x := ⟨_, rfl⟩
  rw [← hb] at KH HR
  clear sm hr hb
  cases b
  · have HR2 : Hid (unitS m o x = false) := Lib.hid (by rw [HR.out]; rfl)
    go_enter Tryz.func159, Tryz.ntmps159
    go_wp2_with (first | (go_at_call 211; (with_reducible refine (KH.out _).mono ?_); rintro e w1 ⟨rfl, hb1⟩))
    go_ret
    exact ⟨ret_bool HR2.out.symm, HB.out.trans (hb1.mono HB.out.size)⟩
  · have HR2 : Hid (unitS m o x = !(x.toList == (B 1).toList)) := Lib.hid (by rw [HR.out]; rfl)
    go_enter Tryz.func159, Tryz.ntmps159
    go_wp2_with (first
      | (go_at_call 211; (with_reducible refine (KH.out _).mono ?_); rintro e w1 ⟨rfl, hb1⟩)
      | (go_at_call 54; (with_reducible refine (r01_OfL 1 1 _ rfl (by decide)).mono ?_); rintro e w2 ⟨rfl, hb2⟩))
    go_ret
    exact ⟨ret_bool (by rw [HR2.out] <;> simp [bne]), (HB.out.trans (hb1.mono HB.out.size)).trans (hb2.mono (Nat.le_trans HB.out.size hb1.size))⟩
theorem r11_Numbers (ch sl mm mo mg mh wm wo wg wh se at_ ha el es bl ma : ByteArray) (w : World) :
    Calls Tryz.prog 154 #[.agg #[.string ch, .string sl, .string mm, .string mo, .string mg, .string mh, .string wm, .string wo, .string wg, .string wh, .string se, .string at_, .string ha, .string el, .string es, .string bl, .string ma]] w fun e w' => (∃ g, e = .returned (.slice (some ⟨g, 0, none⟩) 17 17) ∧ SLs w' w'.heap.size (some ⟨g, 0, none⟩) [ch, sl, mm, mo, mg, mh, wm, wo, wg, wh, se, at_, ha, el, es, bl, ma]) ∧ Below w.heap.size w w' := by
  go_enter Tryz.func154, Tryz.ntmps154
  go_wp2_with fail
  go_ret
  have h := SLs.new (w.alloc (.cells #[.string ch, .string sl, .string mm, .string mo, .string mg, .string mh, .string wm, .string wo, .string wg, .string wh, .string se, .string at_, .string ha, .string el, .string es, .string bl, .string ma] 71)) 28 [ch, sl, mm, mo, mg, mh, wm, wo, wg, wh, se, at_, ha, el, es, bl, ma] (((w.alloc (.cells #[.string ch, .string sl, .string mm, .string mo, .string mg, .string mh, .string wm, .string wo, .string wg, .string wh, .string se, .string at_, .string ha, .string el, .string es, .string bl, .string ma] 71)).alloc (.cells (([ch, sl, mm, mo, mg, mh, wm, wo, wg, wh, se, at_, ha, el, es, bl, ma] : List ByteArray).map Value.string).toArray 28)).heap.size) (by simp)
  rw [World.size_alloc w (.cells #[.string ch, .string sl, .string mm, .string mo, .string mg, .string mh, .string wm, .string wo, .string wg, .string wh, .string se, .string at_, .string ha, .string el, .string es, .string bl, .string ma] 71)] at h
  exact ⟨⟨w.heap.size + 1, rfl, h⟩, ((Below.refl _ _).alloc (Nat.le_refl _) _).alloc (by simp) _⟩

end Go.Proofs.YtdajbcohmnmbpaaGreatDoor

namespace Go.Proofs.YtdajbcohmnmbpaaGreatDoor
open Go.RowKit
set_option maxRecDepth 100000
set_option linter.unusedVariables false
set_option maxHeartbeats 4000000

/-- All numbers have at most 8 bytes. -/
def shortS (ls : List ByteArray) : Bool := ls.all fun s => decide (s.size ≤ 8)
theorem shortS_no {ls : List ByteArray} {k : Nat} (hk : k < ls.length) (h : ¬ (ls.getD k ByteArray.empty).size ≤ 8) : shortS ls = false := by
  unfold shortS
  rw [List.all_eq_false]
  refine ⟨ls[k], List.getElem_mem hk, ?_⟩
  rw [sgetD_lt hk] at h
  simpa using h
theorem shortS_yes {ls : List ByteArray} (h : ∀ j, j < ls.length → (ls.getD j ByteArray.empty).size ≤ 8) : shortS ls = true := by
  unfold shortS
  rw [List.all_eq_true]
  intro x hx
  obtain ⟨j, hj, rfl⟩ := List.getElem_of_mem hx
  have := h j hj
  rw [sgetD_lt hj] at this
  simpa using this
theorem info17 : (Tryz.prog.info? 71).map (·.size) = some 17 := by kernel_rfl
theorem meas17 {k : Nat} (h : k < 17) : 17 - (intOf (.int .i64 ((k : Int) + 1))).toNat < 17 - (intOf (.int .i64 (k : Int))).toNat := by
  simp only [intOf]
  omega
end Go.Proofs.YtdajbcohmnmbpaaGreatDoor

namespace Go.Proofs.YtdajbcohmnmbpaaGreatDoor
open Go.RowKit
set_option maxRecDepth 100000
set_option linter.unusedVariables false
set_option maxHeartbeats 4000000

theorem cell_in' {W : World} {a : Addr} {v : Value} (h : W.cell? a = some v) : a.block < W.heap.size := by
  rcases Nat.lt_or_ge a.block W.heap.size with h2 | h2
  · exact h2
  · simp [World.cell?, Array.getElem?_eq_none h2] at h
theorem params_Check1 (g1 g2 : Nat) (m o x : ByteArray) (w : World) (sm : m.size ≤ 8) (c0 : w.cell? ⟨g1, 6, none⟩ = some (.string m)) (c1 : w.cell? ⟨g1, 7, none⟩ = some (.string o)) (c2 : w.cell? ⟨g2, 0, none⟩ = some (.string (B 1))) :
    Calls Tryz.prog 144 #[.string x, .pointer (some ⟨g1, 0, none⟩), .pointer (some ⟨g2, 0, none⟩)] w fun e w' => e = .returned (.bool (unitS m o x)) ∧ Below w.heap.size w w' := by
  have KH := Lib.hid (fun w => rsagroup_Has m o x w sm)
  have hr : unitS m o x = (hasS m o x && !(x.toList == (B 1).toList)) := rfl
  have HR := Lib.hid hr
  have HC2 := Lib.hid c2
  obtain ⟨b, hb⟩ : ∃ b, b = hasS m o x := ⟨_, rfl⟩
  rw [← hb] at KH HR
  clear sm hr hb
  cases b
  · have HR2 : Hid (unitS m o x = false) := Lib.hid (by rw [HR.out]; rfl)
    go_enter Tryz.func144, Tryz.ntmps144
    go_wp2_with (first | (go_at_call 130; (with_reducible refine (KH.out _).mono ?_); rintro e w1 ⟨rfl, hb1⟩))
    go_ret
    exact ⟨ret_bool HR2.out.symm, hb1⟩
  · have HR2 : Hid (unitS m o x = !(x.toList == (B 1).toList)) := Lib.hid (by rw [HR.out]; rfl)
    go_enter Tryz.func144, Tryz.ntmps144
    go_wp2_with (first | (go_at_call 130; (with_reducible refine (KH.out _).mono ?_); rintro e w1 ⟨rfl, hb1⟩
                          have d2 := (hb1.cell (p := ⟨g2, 0, none⟩) (cell_in' HC2.out)).trans HC2.out))
    go_ret
    exact ⟨ret_bool (by rw [HR2.out] <;> simp [bne]), hb1⟩

theorem natural_AddV (x y : Nat) (w : World) (hx : x < lim) (hy : y < lim) (hxy : x + y < lim) :
    Calls Tryz.prog 83 #[.string (B x), .string (B y)] w fun e w' => e = .returned (.tuple #[.string (B (x + y)), .int .i64 0]) ∧ Below w.heap.size w w' := by
  have := natural_Add (B x) (B y) w
  have e : natAdd (B x) (B y) = (B (x + y), 0) := by
    unfold natAdd fitted; rw [valid_B hx, valid_B hy, num_B, num_B, if_pos hxy]; rfl
  rw [e] at this
  exact this
theorem natural_MulV (x y : Nat) (w : World) (hx : x < lim) (hy : y < lim) (hxy : x * y < lim) :
    Calls Tryz.prog 40 #[.string (B x), .string (B y)] w fun e w' => e = .returned (.tuple #[.string (B (x * y)), .int .i64 0]) ∧ Below w.heap.size w w' := by
  have := natural_Mul (B x) (B y) w
  have e : natMul (B x) (B y) = (B (x * y), 0) := by
    unfold natMul fitted; rw [valid_B hx, valid_B hy, num_B, num_B, if_pos hxy]; rfl
  rw [e] at this
  exact this

end Go.Proofs.YtdajbcohmnmbpaaGreatDoor

namespace Go.Proofs.YtdajbcohmnmbpaaGreatDoor
open Go.RowKit
set_option maxRecDepth 100000
set_option linter.unusedVariables false
set_option maxHeartbeats 4000000

theorem r01_AddV (x y : Nat) (w : World) (hx : x < lim) (hy : y < lim) (hxy : x + y < lim) :
    Calls Tryz.prog 88 #[.string (B x), .string (B y)] w fun e w' => e = .returned (.tuple #[.string (B (x + y)), .int .i64 0]) ∧ Below w.heap.size w w' := by
  have KV := Lib.hid (fun w => r01_Valid (B x) w)
  have KW := Lib.hid (fun w => r01_Valid (B y) w)
  rw [valid_B hx] at KV
  rw [valid_B hy] at KW
  have KP := Lib.hid (fun w => r01_Plus x y w (Nat.le_trans (valid_size (valid_B hx)) (by decide)) (Nat.le_trans (valid_size (valid_B hy)) (by decide)))
  have KF := Lib.hid (fun w => r01_fit (x + y) w)
  have hf : fitted (x + y) = (B (x + y), 0) := by unfold fitted; rw [if_pos hxy]
  rw [hf] at KF
  obtain ⟨r, hr⟩ : ∃ r, r = x + y := ⟨_, rfl⟩
  rw [← hr] at KP KF ⊢
  clear hx hy hxy hf hr
  go_enter Tryz.func88, Tryz.ntmps88
  go_wp2_with (first
    | (go_at_call 117; (with_reducible refine (KV.out _).mono ?_); rintro e w1 ⟨rfl, rfl⟩)
    | (go_at_call 117; (with_reducible refine (KW.out _).mono ?_); rintro e w1 ⟨rfl, rfl⟩)
    | (go_at_call 163; (with_reducible refine (KP.out _).mono ?_); rintro e w2 ⟨rfl, hb2⟩)
    | (go_at_call 123; (with_reducible refine (KF.out _).mono ?_); rintro e w3 ⟨rfl, rfl⟩))
  go_ret2
  exact ⟨rfl, hb2⟩
theorem r01_MulV (x y : Nat) (w : World) (hx : x < lim) (hy : y < lim) (hxy : x * y < lim) :
    Calls Tryz.prog 57 #[.string (B x), .string (B y)] w fun e w' => e = .returned (.tuple #[.string (B (x * y)), .int .i64 0]) ∧ Below w.heap.size w w' := by
  have := r01_Mul (B x) (B y) w
  have e : natMul (B x) (B y) = (B (x * y), 0) := by
    unfold natMul fitted; rw [valid_B hx, valid_B hy, num_B, num_B, if_pos hxy]; rfl
  rw [e] at this
  exact this

end Go.Proofs.YtdajbcohmnmbpaaGreatDoor

namespace Go.Proofs.YtdajbcohmnmbpaaGreatDoor
open Go.RowKit
set_option maxRecDepth 100000
set_option linter.unusedVariables false
set_option maxHeartbeats 4000000

/-- Parameters in their box. -/
structure BoxPar (w wx : World) (cs : Array Value) : Prop where
  blk : wx.heap[w.heap.size]? = some (.cells cs 71 (0, 0))
  bel : Below w.heap.size w wx
theorem BoxPar.start (w : World) (cs : Array Value) : BoxPar w (w.alloc (.cells cs 71)) cs := ⟨heap_alloc_new w _, (Below.refl _ _).alloc (Nat.le_refl _) _⟩
theorem BoxPar.next {w wx wy : World} {cs : Array Value} (h : BoxPar w wx cs) (hb : Below wx.heap.size wx wy) : BoxPar w wy cs :=
  ⟨(hb.block _ (Array.getElem?_eq_some_iff.1 h.blk).1).trans h.blk, h.bel.trans (hb.mono h.bel.size)⟩
theorem BoxPar.cell {w wx : World} {cs : Array Value} (h : BoxPar w wx cs) (k : Nat) : wx.cell? ⟨w.heap.size, k, none⟩ = cs[k]? := by
  simp [World.cell?, h.blk]
end Go.Proofs.YtdajbcohmnmbpaaGreatDoor
