/- Plain law: the error of parameters, their sizes, and how these grow. No program in sight. -/
import Derived.Test.YtfggpgiinihflaaGreatDoorPA
import Derived.Test.YtfggpgiinihflaaGreatDoorPQ
namespace Go.Proofs.YtfggpgiinihflaaGreatDoor
set_option maxRecDepth 100000
set_option linter.unusedVariables false

/-- The groups of parameters are as they should be. -/
def groupP (mm mo mg mh wm wo wg wh : ByteArray) : Bool := decide (pgN (num mm) (num mo) = 0) && genS mm mo mg && genS mm mo mh && unitS wm wo wg && unitS wm wo wh
/-- All numbers of a list are at least 2. -/
def twoUp (l : List ByteArray) : Bool := l.all fun s => decide (2 ≤ num s)
/-- The bounds on the attributes, challenges and secrets. -/
def capP (mo ch se at_ : ByteArray) : Bool := decide (8 * num at_ ≤ num mo) && decide (num ch ≤ num mo) && decide (num se ≤ num mo)
/-- The error of parameters. -/
def parS (ch sl mm mo mg mh wm wo wg wh se at_ ha el es bl ma : ByteArray) : Int :=
  if [ch, sl, se, at_, ha, el, es, bl, ma, mm, mo, mg, mh, wm, wo, wg, wh].all valid = true then
    (if groupP mm mo mg mh wm wo wg wh = true then
      (if twoUp [ch, sl, se, at_, ha, el, es, bl, ma] = true then (if capP mo ch se at_ = true then 0 else 2) else 2)
    else 13)
  else 3
theorem parS_form {ch sl mm mo mg mh wm wo wg wh se at_ ha el es bl ma : ByteArray} (h : [ch, sl, se, at_, ha, el, es, bl, ma, mm, mo, mg, mh, wm, wo, wg, wh].all valid = false) :
    parS ch sl mm mo mg mh wm wo wg wh se at_ ha el es bl ma = 3 := by unfold parS; rw [h]; rfl
theorem parS_group {ch sl mm mo mg mh wm wo wg wh se at_ ha el es bl ma : ByteArray} (h : [ch, sl, se, at_, ha, el, es, bl, ma, mm, mo, mg, mh, wm, wo, wg, wh].all valid = true) (h2 : groupP mm mo mg mh wm wo wg wh = false) :
    parS ch sl mm mo mg mh wm wo wg wh se at_ ha el es bl ma = 13 := by unfold parS; rw [h, h2]; rfl
theorem parS_two {ch sl mm mo mg mh wm wo wg wh se at_ ha el es bl ma : ByteArray} (h : [ch, sl, se, at_, ha, el, es, bl, ma, mm, mo, mg, mh, wm, wo, wg, wh].all valid = true) (h2 : groupP mm mo mg mh wm wo wg wh = true) (h3 : twoUp [ch, sl, se, at_, ha, el, es, bl, ma] = false) :
    parS ch sl mm mo mg mh wm wo wg wh se at_ ha el es bl ma = 2 := by unfold parS; rw [h, h2, h3]; rfl
theorem parS_cap {ch sl mm mo mg mh wm wo wg wh se at_ ha el es bl ma : ByteArray} (h : [ch, sl, se, at_, ha, el, es, bl, ma, mm, mo, mg, mh, wm, wo, wg, wh].all valid = true) (h2 : groupP mm mo mg mh wm wo wg wh = true) (h3 : twoUp [ch, sl, se, at_, ha, el, es, bl, ma] = true) (h4 : capP mo ch se at_ = false) :
    parS ch sl mm mo mg mh wm wo wg wh se at_ ha el es bl ma = 2 := by unfold parS; rw [h, h2, h3, h4]; rfl
theorem parS_ok {ch sl mm mo mg mh wm wo wg wh se at_ ha el es bl ma : ByteArray} (h : [ch, sl, se, at_, ha, el, es, bl, ma, mm, mo, mg, mh, wm, wo, wg, wh].all valid = true) (h2 : groupP mm mo mg mh wm wo wg wh = true) (h3 : twoUp [ch, sl, se, at_, ha, el, es, bl, ma] = true) (h4 : capP mo ch se at_ = true) :
    parS ch sl mm mo mg mh wm wo wg wh se at_ ha el es bl ma = 0 := by unfold parS; rw [h, h2, h3, h4]; rfl
theorem parS_zero {ch sl mm mo mg mh wm wo wg wh se at_ ha el es bl ma : ByteArray} (h : parS ch sl mm mo mg mh wm wo wg wh se at_ ha el es bl ma = 0) :
    [ch, sl, se, at_, ha, el, es, bl, ma, mm, mo, mg, mh, wm, wo, wg, wh].all valid = true ∧ groupP mm mo mg mh wm wo wg wh = true ∧ twoUp [ch, sl, se, at_, ha, el, es, bl, ma] = true ∧ capP mo ch se at_ = true := by
  cases h1 : [ch, sl, se, at_, ha, el, es, bl, ma, mm, mo, mg, mh, wm, wo, wg, wh].all valid
  · rw [parS_form h1] at h; cases h
  · cases h2 : groupP mm mo mg mh wm wo wg wh
    · rw [parS_group h1 h2] at h; cases h
    · cases h3 : twoUp [ch, sl, se, at_, ha, el, es, bl, ma]
      · rw [parS_two h1 h2 h3] at h; cases h
      · cases h4 : capP mo ch se at_
        · rw [parS_cap h1 h2 h3 h4] at h; cases h
        · exact ⟨rfl, rfl, rfl, rfl⟩
/-- What hasS says of the modulus. -/
theorem unitS_mod {m o x : ByteArray} (h : unitS m o x = true) : goodS m o = true := by
  unfold unitS hasS at h
  simp only [Bool.and_eq_true] at h
  exact h.1.1.1.1.1
theorem groupP_bad {mm mo mg mh wm wo wg wh : ByteArray} (h : goodS wm wo = false) : groupP mm mo mg mh wm wo wg wh = false := by
  cases hg : groupP mm mo mg mh wm wo wg wh
  · rfl
  · unfold groupP at hg
    simp only [Bool.and_eq_true] at hg
    rw [unitS_mod hg.1.2] at h
    cases h
/-- The sizes grow with greater bounds. -/
theorem size_h {ha ma y : Nat} (h : 2 ≤ ma) (hy : 0 < y) : ha * ma < (ha + y) * (ma + y) := by
  have e : (ha + y) * (ma + y) = ha * ma + ha * y + y * ma + y * y := by rw [Nat.add_mul, Nat.mul_add, Nat.mul_add]; omega
  have : 0 < y * ma := Nat.mul_pos hy (by omega)
  have : 0 ≤ ha * y := Nat.zero_le _
  have : 0 ≤ y * y := Nat.zero_le _
  generalize ha * ma = a at *
  generalize ha * y = b at *
  generalize y * ma = c at *
  generalize y * y = d at *
  omega
theorem size_v {bl el es ma y : Nat} (hy : 0 < y) : 2 * bl + (el + es) * ma < 2 * (bl + y) + (el + y + es) * (ma + y) := by
  have : (el + es) * ma ≤ (el + y + es) * (ma + y) := Nat.mul_le_mul (by omega) (by omega)
  omega

end Go.Proofs.YtfggpgiinihflaaGreatDoor
