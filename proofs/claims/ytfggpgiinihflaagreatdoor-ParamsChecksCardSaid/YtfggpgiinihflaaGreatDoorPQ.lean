/- The walks of primegroup.IsGenerator and of the reference's: both are Has and not 1. The walks on parameters: Numbers of the reference, less, unit, numbers. The walks on parameters: Short of the law file. The walks of package params: the closures of Check and Sizes. The walks of the reference on parameters: Add, Mul where nothing overflows; Sizes over the error of Check. The walk of the reference's Sizes over the error of Check. -/
import Derived.Test.YtfggpgiinihflaaGreatDoorSE
import Derived.Test.YtfggpgiinihflaaGreatDoorRG
import Derived.Test.YtfggpgiinihflaaGreatDoorBW
import Derived.Test.YtfggpgiinihflaaGreatDoorRA
namespace Go.Proofs.YtfggpgiinihflaaGreatDoor
open Go.RowKit
set_option maxRecDepth 100000
set_option linter.unusedVariables false
set_option maxHeartbeats 1000000

/-- Whether a number generates a group of prime order. -/
def genS (m o x : ByteArray) : Bool := pgHas m o x && !(x.toList == [1])
theorem box2 (w : World) (m o : ByteArray) : Below w.heap.size w (w.alloc (.cells #[.string m, .string o] 37)) := (Below.refl _ _).alloc (Nat.le_refl _) _
theorem pg_IsGen (m o x : ByteArray) (w : World) (sm : m.size ≤ 8) :
    Calls Tryz.prog 52 #[.agg #[.string m, .string o], .string x] w fun e w' => e = .returned (.bool (genS m o x)) ∧ Below w.heap.size w w' := by
  have KH := Lib.hid (fun w => primegroup_Has m o x w sm)
  have HB := Lib.hid (box2 w m o)
  have hr : genS m o x = (pgHas m o x && !(x.toList == [1])) := rfl
  have HR := Lib.hid hr
  obtain ⟨b, hb⟩ : ∃ b, b = pgHas m o x := ⟨_, rfl⟩
  rw [← hb] at KH HR
  clear sm hr hb
  cases b
  · have HR2 : Hid (genS m o x = false) := Lib.hid (by rw [HR.out]; rfl)
    go_enter Tryz.func52, Tryz.ntmps52
    go_wp2_with (first | (go_at_call 81; (with_reducible refine (KH.out _).mono ?_); rintro e w1 ⟨rfl, hb1⟩))
    go_ret
    exact ⟨ret_bool HR2.out.symm, HB.out.trans (hb1.mono HB.out.size)⟩
  · have HR2 : Hid (genS m o x = !(x.toList == [1])) := Lib.hid (by rw [HR.out]; rfl)
    go_enter Tryz.func52, Tryz.ntmps52
    go_wp2_with (first | (go_at_call 81; (with_reducible refine (KH.out _).mono ?_); rintro e w1 ⟨rfl, hb1⟩))
    go_ret
    exact ⟨ret_bool (by rw [HR2.out] <;> simp [bne]), HB.out.trans (hb1.mono HB.out.size)⟩
theorem r09_IsGen (m o x : ByteArray) (w : World) (sm : m.size ≤ 8) :
    Calls Tryz.prog 56 #[.agg #[.string m, .string o], .string x] w fun e w' => e = .returned (.bool (genS m o x)) ∧ Below w.heap.size w w' := by
  have KH := Lib.hid (fun w => r09_Has m o x w sm)
  have HB := Lib.hid (box2 w m o)
  have hr : genS m o x = (pgHas m o x && !(x.toList == [1])) := rfl
  have HR := Lib.hid hr
  obtain ⟨b, hb⟩ : ∃ b, b = pgHas m o x := ⟨_, rfl⟩
  rw [← hb] at KH HR
  clear sm hr hb
  cases b
  · have HR2 : Hid (genS m o x = false) := Lib.hid (by rw [HR.out]; rfl)
    go_enter Tryz.func56, Tryz.ntmps56
    go_wp2_with (first | (go_at_call 85; (with_reducible refine (KH.out _).mono ?_); rintro e w1 ⟨rfl, hb1⟩))
    go_ret
    exact ⟨ret_bool HR2.out.symm, HB.out.trans (hb1.mono HB.out.size)⟩
  · have HR2 : Hid (genS m o x = !(x.toList == [1])) := Lib.hid (by rw [HR.out]; rfl)
    go_enter Tryz.func56, Tryz.ntmps56
    go_wp2_with (first | (go_at_call 85; (with_reducible refine (KH.out _).mono ?_); rintro e w1 ⟨rfl, hb1⟩))
    go_ret
    exact ⟨ret_bool (by rw [HR2.out] <;> simp [bne]), HB.out.trans (hb1.mono HB.out.size)⟩

end Go.Proofs.YtfggpgiinihflaaGreatDoor

namespace Go.Proofs.YtfggpgiinihflaaGreatDoor
open Go.RowKit
set_option maxRecDepth 100000
set_option linter.unusedVariables false
set_option maxHeartbeats 4000000

theorem r11_less (a b : ByteArray) (w : World) (ha : valid a = true) (hb : valid b = true) :
    Calls Tryz.prog 58 #[.string a, .string b] w fun e w' => e = .returned (.bool (decide (num a < num b))) ∧ Below w.heap.size w w' := by
  have KC := Lib.hid (fun w => r01_Cmp a b w)
  rw [show natCmp a b = cmpN (num a) (num b) from by unfold natCmp; rw [ha, hb]; rfl] at KC
  have hc := cmpN_neg (x := num a) (y := num b)
  obtain ⟨y, hy⟩ : ∃ y, y = cmpN (num a) (num b) := ⟨_, rfl⟩
  rw [← hy] at KC hc
  have HR := Lib.hid (show decide (y < 0) = decide (num a < num b) from decide_eq_decide.2 hc)
  clear ha hb hc hy
  go_enter Tryz.func58, Tryz.ntmps58
  go_wp2_with (first | (go_at_call 26; (with_reducible refine (KC.out _).mono ?_); rintro e w1 ⟨rfl, hb1⟩))
  go_ret
  exact ⟨ret_bool HR.out, hb1⟩
theorem r01_OfL (i : Int) (n : Nat) (w : World) (h : i = (n : Int)) (hn : n < 18446744073709551616) : Calls Tryz.prog 40 #[.int .u64 i] w fun e w' => e = .returned (.string (B n)) ∧ Below w.heap.size w w' := by
  subst h
  exact r01_Of n w hn
/-- Whether a number is a unit greater than 1. -/
def unitS (m o x : ByteArray) : Bool := hasS m o x && !(x.toList == (B 1).toList)
theorem r11_unit (m o x : ByteArray) (w : World) (sm : m.size ≤ 8) :
    Calls Tryz.prog 59 #[.agg #[.string m, .string o], .string x] w fun e w' => e = .returned (.bool (unitS m o x)) ∧ Below w.heap.size w w' := by
  have KH := Lib.hid (fun w => r10_Has m o x w sm)
  have HB := Lib.hid (box2 w m o)
  have hr : unitS m o x = (hasS m o x && !(x.toList == (B 1).toList)) := rfl
  have HR := Lib.hid hr
  obtain ⟨b, hb⟩ : ∃ b, b = hasS m o x := ⟨_, rfl⟩
  rw [← hb] at KH HR
  clear sm hr hb
  cases b
  · have HR2 : Hid (unitS m o x = false) := Lib.hid (by rw [HR.out]; rfl)
    go_enter Tryz.func59, Tryz.ntmps59
    go_wp2_with (first | (go_at_call 88; (with_reducible refine (KH.out _).mono ?_); rintro e w1 ⟨rfl, hb1⟩))
    go_ret
    exact ⟨ret_bool HR2.out.symm, HB.out.trans (hb1.mono HB.out.size)⟩
  · have HR2 : Hid (unitS m o x = !(x.toList == (B 1).toList)) := Lib.hid (by rw [HR.out]; rfl)
    go_enter Tryz.func59, Tryz.ntmps59
    go_wp2_with (first
      | (go_at_call 88; (with_reducible refine (KH.out _).mono ?_); rintro e w1 ⟨rfl, hb1⟩)
      | (go_at_call 40; (with_reducible refine (r01_OfL 1 1 _ rfl (by decide)).mono ?_); rintro e w2 ⟨rfl, hb2⟩))
    go_ret
    exact ⟨ret_bool (by rw [HR2.out] <;> simp [bne]), (HB.out.trans (hb1.mono HB.out.size)).trans (hb2.mono (Nat.le_trans HB.out.size hb1.size))⟩
theorem r11_Numbers (ch sl mm mo mg mh wm wo wg wh se at_ ha el es bl ma : ByteArray) (w : World) :
    Calls Tryz.prog 43 #[.agg #[.string ch, .string sl, .string mm, .string mo, .string mg, .string mh, .string wm, .string wo, .string wg, .string wh, .string se, .string at_, .string ha, .string el, .string es, .string bl, .string ma]] w fun e w' => (∃ g, e = .returned (.slice (some ⟨g, 0, none⟩) 17 17) ∧ SLs w' w'.heap.size (some ⟨g, 0, none⟩) [ch, sl, mm, mo, mg, mh, wm, wo, wg, wh, se, at_, ha, el, es, bl, ma]) ∧ Below w.heap.size w w' := by
  go_enter Tryz.func43, Tryz.ntmps43
  go_wp2_with fail
  go_ret
  have h := SLs.new (w.alloc (.cells #[.string ch, .string sl, .string mm, .string mo, .string mg, .string mh, .string wm, .string wo, .string wg, .string wh, .string se, .string at_, .string ha, .string el, .string es, .string bl, .string ma] 53)) 28 [ch, sl, mm, mo, mg, mh, wm, wo, wg, wh, se, at_, ha, el, es, bl, ma] (((w.alloc (.cells #[.string ch, .string sl, .string mm, .string mo, .string mg, .string mh, .string wm, .string wo, .string wg, .string wh, .string se, .string at_, .string ha, .string el, .string es, .string bl, .string ma] 53)).alloc (.cells (([ch, sl, mm, mo, mg, mh, wm, wo, wg, wh, se, at_, ha, el, es, bl, ma] : List ByteArray).map Value.string).toArray 28)).heap.size) (by simp)
  rw [World.size_alloc w (.cells #[.string ch, .string sl, .string mm, .string mo, .string mg, .string mh, .string wm, .string wo, .string wg, .string wh, .string se, .string at_, .string ha, .string el, .string es, .string bl, .string ma] 53)] at h
  exact ⟨⟨w.heap.size + 1, rfl, h⟩, ((Below.refl _ _).alloc (Nat.le_refl _) _).alloc (by simp) _⟩

end Go.Proofs.YtfggpgiinihflaaGreatDoor

namespace Go.Proofs.YtfggpgiinihflaaGreatDoor
open Go.RowKit
set_option maxRecDepth 100000
set_option linter.unusedVariables false
set_option maxHeartbeats 4000000

/-- All numbers have at most 8 bytes. -/
def shortS (ls : List ByteArray) : Bool := ls.all fun s => decide (s.size ≤ 8)
theorem shortS_no {ls : List ByteArray} {k : Nat} (hk : k < ls.length) (h : ¬ (ls.getD k ByteArray.empty).size ≤ 8) : shortS ls = false := by
  unfold shortS
  rw [List.all_eq_false]
  refine ⟨ls[k], List.getElem_mem hk, ?_⟩
  rw [sgetD_lt hk] at h
  simpa using h
theorem shortS_yes {ls : List ByteArray} (h : ∀ j, j < ls.length → (ls.getD j ByteArray.empty).size ≤ 8) : shortS ls = true := by
  unfold shortS
  rw [List.all_eq_true]
  intro x hx
  obtain ⟨j, hj, rfl⟩ := List.getElem_of_mem hx
  have := h j hj
  rw [sgetD_lt hj] at this
  simpa using this
theorem info17 : (Tryz.prog.info? 53).map (·.size) = some 17 := by kernel_rfl
theorem meas17 {k : Nat} (h : k < 17) : 17 - (intOf (.int .i64 ((k : Int) + 1))).toNat < 17 - (intOf (.int .i64 (k : Int))).toNat := by
  simp only [intOf]
  omega
theorem law11_Short (ch sl mm mo mg mh wm wo wg wh se at_ ha el es bl ma : ByteArray) (w : World) :
    Calls Tryz.prog 19 #[.agg #[.string ch, .string sl, .string mm, .string mo, .string mg, .string mh, .string wm, .string wo, .string wg, .string wh, .string se, .string at_, .string ha, .string el, .string es, .string bl, .string ma]] w fun e w' => e = .returned (.bool (shortS [ch, sl, mm, mo, mg, mh, wm, wo, wg, wh, se, at_, ha, el, es, bl, ma])) ∧ Below w.heap.size w w' := by
  have KN := Lib.hid (fun w => r11_Numbers ch sl mm mo mg mh wm wo wg wh se at_ ha el es bl ma w)
  have HB := Lib.hid (show Below w.heap.size w (w.alloc (.cells #[.string ch, .string sl, .string mm, .string mo, .string mg, .string mh, .string wm, .string wo, .string wg, .string wh, .string se, .string at_, .string ha, .string el, .string es, .string bl, .string ma] 53)) from (Below.refl _ _).alloc (Nat.le_refl _) _)
  obtain ⟨ls, hls⟩ : ∃ ls : List ByteArray, ls = [ch, sl, mm, mo, mg, mh, wm, wo, wg, wh, se, at_, ha, el, es, bl, ma] := ⟨_, rfl⟩
  have hlen : ls.length = 17 := by rw [hls]; rfl
  rw [← hls] at KN ⊢
  have HL := Lib.hid hlen
  clear hls hlen
  go_enter Tryz.func19, Tryz.ntmps19
  go_wp2_with (first | (refine wpList_load_row rfl 53 _ rfl w.heap.size rfl _ _ _ _ (heap_alloc_new w _) Tryz.underlying53 rfl (info17.trans rfl) ?_) | (go_at_call 43; (with_reducible refine (KN.out _).mono ?_); rintro e w1 ⟨⟨g, rfl, hsl⟩, hb1⟩; have HS := Lib.hid hsl; have HB1 := Lib.hid (HB.out.trans (hb1.mono HB.out.size)); clear hsl hb1))
  go_loop [4] (fun v => ∃ k : Nat, v = .int .i64 k ∧ k ≤ 17 ∧ ∀ j, j < k → (ls.getD j ByteArray.empty).size ≤ 8) (fun v => 17 - (intOf v).toNat)
  case atStart => exact ⟨0, rfl, Nat.zero_le _, fun j h => absurd h (Nat.not_lt_zero _)⟩
  case round =>
    obtain ⟨k, rfl, hk, hall⟩ := hrel
    have HA := Lib.hid hall
    clear hall
    by_cases hlt : k < 17
    · obtain ⟨ad, e, hc⟩ := HS.out.at_ (k := k) (by rw [HL.out]; exact hlt)
      cases e
      rw [addr_add] at hc
      obtain ⟨x, hx⟩ : ∃ x, ls.getD k ByteArray.empty = x := ⟨_, rfl⟩
      rw [hx] at hc
      have HX := Lib.hid hx
      have k1 : decide ((k : Int) < 17) = true := decide_eq_true (by omega)
      have HLT := Lib.hid hlt
      rw [Nat.zero_add] at hc
      by_cases h8 : x.size ≤ 8
      · have k3 : decide ((8 : Int) < (x.size : Int)) = false := decide_eq_false (by omega)
        have H8 := Lib.hid h8
        clear h8 hx
        go_wp2
        go_round
        case rel => exact ⟨k + 1, by go_num, HLT.out, fun j hj => by
          by_cases e : j = k
          · subst e; rw [HX.out]; exact H8.out
          · exact HA.out j (by omega)⟩
        case measure => exact meas17 HLT.out
      · have k3 : decide ((8 : Int) < (x.size : Int)) = true := decide_eq_true (by omega)
        have HF : Hid (shortS ls = false) := Lib.hid (shortS_no (k := k) (by rw [HL.out]; exact hlt) (by rw [hx]; exact h8))
        clear h8 hx
        go_wp2
        go_ret
        exact ⟨ret_bool HF.out.symm, HB1.out⟩
    · have k1 : decide ((k : Int) < 17) = false := decide_eq_false (by omega)
      have HF : Hid (shortS ls = true) := Lib.hid (shortS_yes (fun j hj => HA.out j (by rw [HL.out] at hj; omega)))
      clear hlt
      go_wp2
      go_ret
      exact ⟨ret_bool HF.out.symm, HB1.out⟩

end Go.Proofs.YtfggpgiinihflaaGreatDoor

namespace Go.Proofs.YtfggpgiinihflaaGreatDoor
open Go.RowKit
set_option maxRecDepth 100000
set_option linter.unusedVariables false
set_option maxHeartbeats 4000000

theorem cell_in' {W : World} {a : Addr} {v : Value} (h : W.cell? a = some v) : a.block < W.heap.size := by
  rcases Nat.lt_or_ge a.block W.heap.size with h2 | h2
  · exact h2
  · simp [World.cell?, Array.getElem?_eq_none h2] at h
theorem params_Check1 (g1 g2 : Nat) (m o x : ByteArray) (w : World) (sm : m.size ≤ 8) (c0 : w.cell? ⟨g1, 6, none⟩ = some (.string m)) (c1 : w.cell? ⟨g1, 7, none⟩ = some (.string o)) (c2 : w.cell? ⟨g2, 0, none⟩ = some (.string (B 1))) :
    Calls Tryz.prog 49 #[.string x, .pointer (some ⟨g1, 0, none⟩), .pointer (some ⟨g2, 0, none⟩)] w fun e w' => e = .returned (.bool (unitS m o x)) ∧ Below w.heap.size w w' := by
  have KH := Lib.hid (fun w => rsagroup_Has m o x w sm)
  have hr : unitS m o x = (hasS m o x && !(x.toList == (B 1).toList)) := rfl
  have HR := Lib.hid hr
  have HC2 := Lib.hid c2
  obtain ⟨b, hb⟩ : ∃ b, b = hasS m o x := ⟨_, rfl⟩
  rw [← hb] at KH HR
  clear sm hr hb
  cases b
  · have HR2 : Hid (unitS m o x = false) := Lib.hid (by rw [HR.out]; rfl)
    go_enter Tryz.func49, Tryz.ntmps49
    go_wp2_with (first | (go_at_call 50; (with_reducible refine (KH.out _).mono ?_); rintro e w1 ⟨rfl, hb1⟩))
    go_ret
    exact ⟨ret_bool HR2.out.symm, hb1⟩
  · have HR2 : Hid (unitS m o x = !(x.toList == (B 1).toList)) := Lib.hid (by rw [HR.out]; rfl)
    go_enter Tryz.func49, Tryz.ntmps49
    go_wp2_with (first | (go_at_call 50; (with_reducible refine (KH.out _).mono ?_); rintro e w1 ⟨rfl, hb1⟩
                          have d2 := (hb1.cell (p := ⟨g2, 0, none⟩) (cell_in' HC2.out)).trans HC2.out))
    go_ret
    exact ⟨ret_bool (by rw [HR2.out] <;> simp [bne]), hb1⟩

theorem natural_AddV (x y : Nat) (w : World) (hx : x < lim) (hy : y < lim) (hxy : x + y < lim) :
    Calls Tryz.prog 45 #[.string (B x), .string (B y)] w fun e w' => e = .returned (.tuple #[.string (B (x + y)), .int .i64 0]) ∧ Below w.heap.size w w' := by
  have := natural_Add (B x) (B y) w
  have e : natAdd (B x) (B y) = (B (x + y), 0) := by
    unfold natAdd fitted; rw [valid_B hx, valid_B hy, num_B, num_B, if_pos hxy]; rfl
  rw [e] at this
  exact this
theorem natural_MulV (x y : Nat) (w : World) (hx : x < lim) (hy : y < lim) (hxy : x * y < lim) :
    Calls Tryz.prog 41 #[.string (B x), .string (B y)] w fun e w' => e = .returned (.tuple #[.string (B (x * y)), .int .i64 0]) ∧ Below w.heap.size w w' := by
  have := natural_Mul (B x) (B y) w
  have e : natMul (B x) (B y) = (B (x * y), 0) := by
    unfold natMul fitted; rw [valid_B hx, valid_B hy, num_B, num_B, if_pos hxy]; rfl
  rw [e] at this
  exact this

theorem params_Sizes1 (g x y : Nat) (w : World) (hx : x < lim) (hy : y < lim) (hxy : x + y < lim) (c0 : w.cell? ⟨g, 0, none⟩ = some (.int .i64 0)) (f0 : w.frozen? ⟨g, 0, none⟩ = false) :
    Calls Tryz.prog 44 #[.string (B x), .string (B y), .pointer (some ⟨g, 0, none⟩)] w fun e w' => e = .returned (.string (B (x + y))) ∧ Below g w w' ∧ w'.cell? ⟨g, 0, none⟩ = some (.int .i64 0) ∧ w'.frozen? ⟨g, 0, none⟩ = false := by
  have KA := Lib.hid (fun w => natural_AddV x y w hx hy hxy)
  obtain ⟨r, hr⟩ : ∃ r, r = x + y := ⟨_, rfl⟩
  rw [← hr] at KA ⊢
  have HC := Lib.hid (And.intro c0 f0)
  have hg : g < w.heap.size := cell_in' (a := ⟨g, 0, none⟩) c0
  have HG := Lib.hid hg
  clear hx hy hxy hr c0 f0 hg
  go_enter Tryz.func44, Tryz.ntmps44
  go_wp2_with (first | (go_at_call 45; (with_reducible refine (KA.out _).mono ?_); rintro e w1 ⟨rfl, hb1⟩
                        have d0 := (hb1.cell (p := ⟨g, 0, none⟩) HG.out).trans HC.out.1
                        have d1 := (hb1.frozen (p := ⟨g, 0, none⟩) HG.out).trans HC.out.2))
  go_ret
  refine ⟨rfl, ?_, ?_, ?_⟩
  · exact (hb1.mono (Nat.le_of_lt HG.out)).setCell (p := ⟨g, 0, none⟩) (Nat.le_refl _) _
  · exact World.cell?_setCell_same _ _ _ d0
  · exact (World.frozen?_setCell _ _ _ _).trans d1

theorem params_Sizes2 (g x y : Nat) (w : World) (hx : x < lim) (hy : y < lim) (hxy : x * y < lim) (c0 : w.cell? ⟨g, 0, none⟩ = some (.int .i64 0)) (f0 : w.frozen? ⟨g, 0, none⟩ = false) :
    Calls Tryz.prog 46 #[.string (B x), .string (B y), .pointer (some ⟨g, 0, none⟩)] w fun e w' => e = .returned (.string (B (x * y))) ∧ Below g w w' ∧ w'.cell? ⟨g, 0, none⟩ = some (.int .i64 0) ∧ w'.frozen? ⟨g, 0, none⟩ = false := by
  have KA := Lib.hid (fun w => natural_MulV x y w hx hy hxy)
  obtain ⟨r, hr⟩ : ∃ r, r = x * y := ⟨_, rfl⟩
  rw [← hr] at KA ⊢
  have HC := Lib.hid (And.intro c0 f0)
  have hg : g < w.heap.size := cell_in' (a := ⟨g, 0, none⟩) c0
  have HG := Lib.hid hg
  clear hx hy hxy hr c0 f0 hg
  go_enter Tryz.func46, Tryz.ntmps46
  go_wp2_with (first | (go_at_call 41; (with_reducible refine (KA.out _).mono ?_); rintro e w1 ⟨rfl, hb1⟩
                        have d0 := (hb1.cell (p := ⟨g, 0, none⟩) HG.out).trans HC.out.1
                        have d1 := (hb1.frozen (p := ⟨g, 0, none⟩) HG.out).trans HC.out.2))
  go_ret
  refine ⟨rfl, ?_, ?_, ?_⟩
  · exact (hb1.mono (Nat.le_of_lt HG.out)).setCell (p := ⟨g, 0, none⟩) (Nat.le_refl _) _
  · exact World.cell?_setCell_same _ _ _ d0
  · exact (World.frozen?_setCell _ _ _ _).trans d1

end Go.Proofs.YtfggpgiinihflaaGreatDoor

namespace Go.Proofs.YtfggpgiinihflaaGreatDoor
open Go.RowKit
set_option maxRecDepth 100000
set_option linter.unusedVariables false
set_option maxHeartbeats 4000000

theorem r01_AddV (x y : Nat) (w : World) (hx : x < lim) (hy : y < lim) (hxy : x + y < lim) :
    Calls Tryz.prog 24 #[.string (B x), .string (B y)] w fun e w' => e = .returned (.tuple #[.string (B (x + y)), .int .i64 0]) ∧ Below w.heap.size w w' := by
  have KV := Lib.hid (fun w => r01_Valid (B x) w)
  have KW := Lib.hid (fun w => r01_Valid (B y) w)
  rw [valid_B hx] at KV
  rw [valid_B hy] at KW
  have KP := Lib.hid (fun w => r01_Plus x y w (Nat.le_trans (valid_size (valid_B hx)) (by decide)) (Nat.le_trans (valid_size (valid_B hy)) (by decide)))
  have KF := Lib.hid (fun w => r01_fit (x + y) w)
  have hf : fitted (x + y) = (B (x + y), 0) := by unfold fitted; rw [if_pos hxy]
  rw [hf] at KF
  obtain ⟨r, hr⟩ : ∃ r, r = x + y := ⟨_, rfl⟩
  rw [← hr] at KP KF ⊢
  clear hx hy hxy hf hr
  go_enter Tryz.func24, Tryz.ntmps24
  go_wp2_with (first
    | (go_at_call 54; (with_reducible refine (KV.out _).mono ?_); rintro e w1 ⟨rfl, rfl⟩)
    | (go_at_call 54; (with_reducible refine (KW.out _).mono ?_); rintro e w1 ⟨rfl, rfl⟩)
    | (go_at_call 61; (with_reducible refine (KP.out _).mono ?_); rintro e w2 ⟨rfl, hb2⟩)
    | (go_at_call 60; (with_reducible refine (KF.out _).mono ?_); rintro e w3 ⟨rfl, rfl⟩))
  go_ret2
  exact ⟨rfl, hb2⟩
theorem r01_MulV (x y : Nat) (w : World) (hx : x < lim) (hy : y < lim) (hxy : x * y < lim) :
    Calls Tryz.prog 42 #[.string (B x), .string (B y)] w fun e w' => e = .returned (.tuple #[.string (B (x * y)), .int .i64 0]) ∧ Below w.heap.size w w' := by
  have := r01_Mul (B x) (B y) w
  have e : natMul (B x) (B y) = (B (x * y), 0) := by
    unfold natMul fitted; rw [valid_B hx, valid_B hy, num_B, num_B, if_pos hxy]; rfl
  rw [e] at this
  exact this

end Go.Proofs.YtfggpgiinihflaaGreatDoor

namespace Go.Proofs.YtfggpgiinihflaaGreatDoor
open Go.RowKit
set_option maxRecDepth 100000
set_option linter.unusedVariables false
set_option maxHeartbeats 4000000

theorem r11_Sizes_err (ch sl mm mo mg mh wm wo wg wh se at_ ha el es bl ma : ByteArray) (c : Int) (w : World) (hc : c ≠ 0)
    (hC : ∀ w, Calls Tryz.prog 23 #[.agg #[.string ch, .string sl, .string mm, .string mo, .string mg, .string mh, .string wm, .string wo, .string wg, .string wh, .string se, .string at_, .string ha, .string el, .string es, .string bl, .string ma]] w fun e w' => e = .returned (.int .i64 c) ∧ Below w.heap.size w w') :
    Calls Tryz.prog 21 #[.agg #[.string ch, .string sl, .string mm, .string mo, .string mg, .string mh, .string wm, .string wo, .string wg, .string wh, .string se, .string at_, .string ha, .string el, .string es, .string bl, .string ma]] w fun e w' => e = .returned (.tuple #[.string ⟨#[]⟩, .string ⟨#[]⟩, .int .i64 c]) ∧ Below w.heap.size w w' := by
  have KC := Lib.hid hC
  have HB := Lib.hid (show Below w.heap.size w (w.alloc (.cells #[.string ch, .string sl, .string mm, .string mo, .string mg, .string mh, .string wm, .string wo, .string wg, .string wh, .string se, .string at_, .string ha, .string el, .string es, .string bl, .string ma] 53)) from (Below.refl _ _).alloc (Nat.le_refl _) _)
  have hne : (c == 0) = false := by rw [beq_eq_false_iff_ne]; exact hc
  clear hC hc
  go_enter Tryz.func21, Tryz.ntmps21
  go_wp2_with (first | (refine wpList_load_row rfl 53 _ rfl w.heap.size rfl _ _ _ _ (heap_alloc_new w _) Tryz.underlying53 rfl (info17.trans rfl) ?_) | (go_at_call 23; (with_reducible refine (KC.out _).mono ?_); rintro e w1 ⟨rfl, hb1⟩))
  refine bodyPost_ret (v := .tuple #[.string ⟨#[]⟩, .string ⟨#[]⟩, .int .i64 c]) (by simp [results, Tryz.results21, go_sem]) rfl ⟨rfl, HB.out.trans (hb1.mono HB.out.size)⟩

/-- Parameters in their box. -/
structure BoxPar (w wx : World) (cs : Array Value) : Prop where
  blk : wx.heap[w.heap.size]? = some (.cells cs 53 (0, 0))
  bel : Below w.heap.size w wx
theorem BoxPar.start (w : World) (cs : Array Value) : BoxPar w (w.alloc (.cells cs 53)) cs := ⟨heap_alloc_new w _, (Below.refl _ _).alloc (Nat.le_refl _) _⟩
theorem BoxPar.next {w wx wy : World} {cs : Array Value} (h : BoxPar w wx cs) (hb : Below wx.heap.size wx wy) : BoxPar w wy cs :=
  ⟨(hb.block _ (Array.getElem?_eq_some_iff.1 h.blk).1).trans h.blk, h.bel.trans (hb.mono h.bel.size)⟩
theorem BoxPar.cell {w wx : World} {cs : Array Value} (h : BoxPar w wx cs) (k : Nat) : wx.cell? ⟨w.heap.size, k, none⟩ = cs[k]? := by
  simp [World.cell?, h.blk]
theorem r11_Sizes_ok (ch sl mm mo mg mh wm wo wg wh se at_ : ByteArray) (ha el es bl ma : Nat) (w : World) (h1 : ha < 36893488147419103232) (h2 : el < 36893488147419103232) (h3 : es < 36893488147419103232) (h4 : bl < 36893488147419103232) (h5 : ma < 36893488147419103232)
    (hC : ∀ w, Calls Tryz.prog 23 #[.agg #[.string ch, .string sl, .string mm, .string mo, .string mg, .string mh, .string wm, .string wo, .string wg, .string wh, .string se, .string at_, .string (B ha), .string (B el), .string (B es), .string (B bl), .string (B ma)]] w fun e w' => e = .returned (.int .i64 0) ∧ Below w.heap.size w w') :
    Calls Tryz.prog 21 #[.agg #[.string ch, .string sl, .string mm, .string mo, .string mg, .string mh, .string wm, .string wo, .string wg, .string wh, .string se, .string at_, .string (B ha), .string (B el), .string (B es), .string (B bl), .string (B ma)]] w fun e w' => e = .returned (.tuple #[.string (B (bl + bl + (el + es) * ma)), .string (B (ha * ma)), .int .i64 0]) ∧ Below w.heap.size w w' := by
  have KC := Lib.hid hC
  obtain ⟨cs, hcs⟩ : ∃ cs : Array Value, cs = #[.string ch, .string sl, .string mm, .string mo, .string mg, .string mh, .string wm, .string wo, .string wg, .string wh, .string se, .string at_, .string (B ha), .string (B el), .string (B es), .string (B bl), .string (B ma)] := ⟨_, rfl⟩
  have HP0 := Lib.hid (BoxPar.start w #[.string ch, .string sl, .string mm, .string mo, .string mg, .string mh, .string wm, .string wo, .string wg, .string wh, .string se, .string at_, .string (B ha), .string (B el), .string (B es), .string (B bl), .string (B ma)])
  have hP : (36893488147419103232 : Nat) + 36893488147419103232 < lim := by decide
  have l0 : (36893488147419103232 : Nat) < lim := by decide
  obtain ⟨S, hS⟩ : ∃ S, S = el + es := ⟨_, rfl⟩
  have hm1 : S * ma ≤ 73786976294838206464 * 36893488147419103232 := Nat.mul_le_mul (by omega) (by omega)
  have hm2 : ha * ma ≤ 36893488147419103232 * 36893488147419103232 := Nat.mul_le_mul (by omega) (by omega)
  have e1 : (73786976294838206464 * 36893488147419103232 + 73786976294838206464 : Nat) < lim := by decide
  have e2 : (36893488147419103232 * 36893488147419103232 : Nat) < lim := by decide
  have K1 := Lib.hid (fun w => r01_AddV el es w (Nat.lt_trans h2 l0) (Nat.lt_trans h3 l0) (Nat.lt_trans (Nat.add_lt_add h2 h3) hP))
  obtain ⟨X, hX⟩ : ∃ X, X = S * ma := ⟨_, rfl⟩
  have K2 := Lib.hid (fun w => r01_MulV S ma w (by omega) (Nat.lt_trans h5 l0) (by omega))
  obtain ⟨D, hD⟩ : ∃ D, D = bl + bl := ⟨_, rfl⟩
  have K3 := Lib.hid (fun w => r01_AddV bl bl w (Nat.lt_trans h4 l0) (Nat.lt_trans h4 l0) (Nat.lt_trans (Nat.add_lt_add h4 h4) hP))
  obtain ⟨V, hV⟩ : ∃ V, V = D + X := ⟨_, rfl⟩
  have K4 := Lib.hid (fun w => r01_AddV D X w (by omega) (by omega) (by omega))
  obtain ⟨H, hH⟩ : ∃ H, H = ha * ma := ⟨_, rfl⟩
  have K5 := Lib.hid (fun w => r01_MulV ha ma w (Nat.lt_trans h1 l0) (Nat.lt_trans h5 l0) (by omega))
  rw [← hS] at K1
  rw [← hX] at K2
  rw [← hD] at K3
  rw [← hV] at K4
  rw [← hH] at K5
  rw [← hS, ← hX, ← hD, ← hV, ← hH]
  clear hC hcs hP l0 hm1 hm2 e1 e2 hS hX hD hV hH h1 h2 h3 h4 h5
  go_enter Tryz.func21, Tryz.ntmps21
  go_wp2_with (first
    | (refine wpList_load_row rfl 53 _ rfl w.heap.size rfl _ _ _ _ (heap_alloc_new w _) Tryz.underlying53 rfl (info17.trans rfl) ?_)
    | (go_at_call 23; (with_reducible refine (KC.out _).mono ?_); rintro e w1 ⟨rfl, hb1⟩
       have HP1 := Lib.hid (HP0.out.next hb1)
       have c12 := HP1.out.cell 12
       have c13 := HP1.out.cell 13
       have c14 := HP1.out.cell 14
       have c15 := HP1.out.cell 15
       have c16 := HP1.out.cell 16
       simp only [List.getElem?_toArray, List.getElem?_cons_succ, List.getElem?_cons_zero] at c12 c13 c14 c15 c16
       clear hb1)
    | (go_at_call 24; (with_reducible refine (K1.out _).mono ?_); rintro e w2 ⟨rfl, hb2⟩
       have HP2 := Lib.hid (HP1.out.next hb2)
       have c12 := (hb2.cell (cell_in' c12)).trans c12
       have c15 := (hb2.cell (cell_in' c15)).trans c15
       have c16 := (hb2.cell (cell_in' c16)).trans c16
       clear hb2)
    | (go_at_call 42; (with_reducible refine (K2.out _).mono ?_); rintro e w3 ⟨rfl, hb3⟩
       have HP3 := Lib.hid (HP2.out.next hb3)
       have c12 := (hb3.cell (cell_in' c12)).trans c12
       have c15 := (hb3.cell (cell_in' c15)).trans c15
       have c16 := (hb3.cell (cell_in' c16)).trans c16
       clear hb3)
    | (go_at_call 24; (with_reducible refine (K3.out _).mono ?_); rintro e w4 ⟨rfl, hb4⟩
       have HP4 := Lib.hid (HP3.out.next hb4)
       have c12 := (hb4.cell (cell_in' c12)).trans c12
       have c16 := (hb4.cell (cell_in' c16)).trans c16
       clear hb4)
    | (go_at_call 24; (with_reducible refine (K4.out _).mono ?_); rintro e w5 ⟨rfl, hb5⟩
       have HP5 := Lib.hid (HP4.out.next hb5)
       have c12 := (hb5.cell (cell_in' c12)).trans c12
       have c16 := (hb5.cell (cell_in' c16)).trans c16
       clear hb5)
    | (go_at_call 42; (with_reducible refine (K5.out _).mono ?_); rintro e w6 ⟨rfl, hb6⟩
       have HP6 := Lib.hid (HP5.out.next hb6)
       clear hb6))
  refine bodyPost_ret (v := .tuple #[.string (B V), .string (B H), .int .i64 0]) (by simp [results, Tryz.results21, go_sem]) rfl ⟨rfl, HP6.out.bel⟩

end Go.Proofs.YtfggpgiinihflaaGreatDoor
