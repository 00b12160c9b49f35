/- Encoding, plain: lists of items as trees, their validity, depth and bytes; reading them back. -/
import Derived.Test.YtlheedcnmfekoaaTwWz
namespace Go.Proofs.Ytlheedcnmfekoaa
open Go.RowKit
set_option maxRecDepth 100000
set_option linter.unusedVariables false

/-- A list of items: kind, number, text, list of the first one, and the others. -/
inductive Its where
  | nil : Its
  | cons (k : Int) (n t : ByteArray) (l r : Its) : Its
namespace Its
def len : Its → Nat
  | .nil => 0
  | .cons _ _ _ _ r => r.len + 1
def size : Its → Nat
  | .nil => 0
  | .cons _ _ _ l r => l.size + r.size + 1
abbrev One := Int × ByteArray × ByteArray × Its
def get? : Its → Nat → Option One
  | .nil, _ => none
  | .cons k n t l _, 0 => some (k, n, t, l)
  | .cons _ _ _ _ r, i + 1 => r.get? i
def app : Its → Its → Its
  | .nil, b => b
  | .cons k n t l r, b => .cons k n t l (r.app b)
def one (x : One) : Its := .cons x.1 x.2.1 x.2.2.1 x.2.2.2 .nil
def take : Its → Nat → Its
  | _, 0 => .nil
  | .nil, _ + 1 => .nil
  | .cons k n t l r, i + 1 => .cons k n t l (r.take i)
def drop : Its → Nat → Its
  | x, 0 => x
  | .nil, _ + 1 => .nil
  | .cons _ _ _ _ r, i + 1 => r.drop i
theorem get_lt {x : Its} {i : Nat} (h : i < x.len) : ∃ y, x.get? i = some y := by
  induction x generalizing i with
  | nil => simp [len] at h
  | cons k n t l r _ ih =>
    cases i with
    | zero => exact ⟨_, rfl⟩
    | succ i => exact ih (by simp only [len] at h; omega)
theorem lt_get {x : Its} {i : Nat} {y : One} (h : x.get? i = some y) : i < x.len := by
  induction x generalizing i with
  | nil => simp [get?] at h
  | cons k n t l r _ ih =>
    cases i with
    | zero => simp [len]
    | succ i => have := ih h; simp only [len]; omega
theorem get_size {x : Its} {i : Nat} {y : One} (h : x.get? i = some y) : y.2.2.2.size < x.size := by
  induction x generalizing i with
  | nil => simp [get?] at h
  | cons k n t l r _ ih =>
    cases i with
    | zero => simp only [get?, Option.some.injEq] at h; subst h; simp only [size]; omega
    | succ i => have := ih h; simp only [size]; omega
theorem len_app (a b : Its) : (a.app b).len = a.len + b.len := by
  induction a with
  | nil => simp [app, len]
  | cons k n t l r _ ih => simp only [app, len, ih]; omega
theorem app_assoc (a b c : Its) : (a.app b).app c = a.app (b.app c) := by
  induction a with
  | nil => rfl
  | cons k n t l r _ ih => simp only [app, ih]
theorem app_nil (a : Its) : a.app .nil = a := by
  induction a with
  | nil => rfl
  | cons k n t l r _ ih => simp only [app, ih]
theorem take_zero (x : Its) : x.take 0 = .nil := by cases x <;> rfl
theorem take_all (x : Its) {i : Nat} (h : x.len ≤ i) : x.take i = x := by
  induction x generalizing i with
  | nil => cases i <;> rfl
  | cons k n t l r _ ih =>
    cases i with
    | zero => simp [len] at h
    | succ i => simp only [take]; rw [ih (by simp only [len] at h; omega)]
theorem take_succ {x : Its} {i : Nat} {y : One} (h : x.get? i = some y) : x.take (i + 1) = (x.take i).app (one y) := by
  induction x generalizing i with
  | nil => simp [get?] at h
  | cons k n t l r _ ih =>
    cases i with
    | zero => simp only [get?, Option.some.injEq] at h; subst h; simp [take, take_zero, app, one]
    | succ i =>
      have e := ih (i := i) h
      show Its.cons k n t l (r.take (i + 1)) = Its.cons k n t l ((r.take i).app (one y))
      rw [e]
theorem len_take (x : Its) {i : Nat} (h : i ≤ x.len) : (x.take i).len = i := by
  induction x generalizing i with
  | nil => simp only [len] at h; have : i = 0 := by omega
           subst this; rfl
  | cons k n t l r _ ih =>
    cases i with
    | zero => rfl
    | succ i => simp only [take, len]; rw [ih (by simp only [len] at h; omega)]
theorem drop_zero (x : Its) : x.drop 0 = x := by cases x <;> rfl
theorem drop_get {x : Its} {i : Nat} {y : One} (h : x.get? i = some y) : x.drop i = .cons y.1 y.2.1 y.2.2.1 y.2.2.2 (x.drop (i + 1)) := by
  induction x generalizing i with
  | nil => simp [get?] at h
  | cons k n t l r _ ih =>
    cases i with
    | zero => simp only [get?, Option.some.injEq] at h; subst h; simp [drop, drop_zero]
    | succ i => simp only [drop]; exact ih h
theorem drop_len (x : Its) {i : Nat} (h : x.len ≤ i) : x.drop i = .nil := by
  induction x generalizing i with
  | nil => cases i <;> rfl
  | cons k n t l r _ ih =>
    cases i with
    | zero => simp [len] at h
    | succ i => simp only [drop]; exact ih (by simp only [len] at h; omega)
theorem len_drop (x : Its) (i : Nat) : (x.drop i).len = x.len - i := by
  induction x generalizing i with
  | nil => cases i <;> simp [drop, len]
  | cons k n t l r _ ih =>
    cases i with
    | zero => simp [drop_zero]
    | succ i => simp only [drop, len, ih]; omega
end Its

/-- Whether all items are valid. -/
def okI : Its → Bool
  | .nil => true
  | .cons k n t l r => (if k = 0 then valid n && (decide (t.size = 0) && decide (l.len = 0)) else if k = 1 then decide (n.size = 0) && decide (l.len = 0) else if k = 2 then okI l && (decide (n.size = 0) && decide (t.size = 0)) else false) && okI r
def okOne (x : Its.One) : Bool := okI (Its.one x)
theorem okI_get {x : Its} {i : Nat} {y : Its.One} (h : okI x = true) (hy : x.get? i = some y) : okOne y = true := by
  induction x generalizing i with
  | nil => simp [Its.get?] at hy
  | cons k n t l r _ ih =>
    simp only [okI, Bool.and_eq_true] at h
    cases i with
    | zero => simp only [Its.get?, Option.some.injEq] at hy; subst hy; unfold okOne Its.one; simp only [okI, Bool.and_true]; exact h.1
    | succ i => exact ih h.2 hy
theorem okI_not {x : Its} {i : Nat} {y : Its.One} (hy : x.get? i = some y) (h : okOne y = false) : okI x = false := by
  cases e : okI x
  · rfl
  · rw [okI_get e hy] at h; cases h
theorem okI_take {x : Its} {i : Nat} (h : ∀ j y, j < i → x.get? j = some y → okOne y = true) : okI (x.take i) = true := by
  induction x generalizing i with
  | nil => cases i <;> rfl
  | cons k n t l r _ ih =>
    cases i with
    | zero => rfl
    | succ i =>
      have h0 := h 0 _ (by omega) rfl
      unfold okOne Its.one at h0
      simp only [okI, Bool.and_true] at h0
      simp only [Its.take, okI]
      rw [h0, ih (fun j y hj hy => h (j + 1) y (by omega) hy)]
      rfl
/-- The greatest depth of the items. -/
def deepI : Its → Nat
  | .nil => 0
  | .cons k _ _ l r => max (if k = 2 then deepI l + 1 else 0) (deepI r)
def deepOne (x : Its.One) : Nat := if x.1 = 2 then deepI x.2.2.2 + 1 else 0
theorem deepI_app (a b : Its) : deepI (a.app b) = max (deepI a) (deepI b) := by
  induction a with
  | nil => simp [Its.app, deepI]
  | cons k n t l r _ ih => simp only [Its.app, deepI, ih]; omega
theorem deepI_one (y : Its.One) : deepI (Its.one y) = deepOne y := by unfold Its.one deepOne; simp only [deepI]; omega
/-- A length in base 128. -/
def lenF : Nat → Nat → List UInt8
  | 0, _ => []
  | f + 1, n => if n < 128 then [UInt8.ofNat n] else UInt8.ofNat (n % 128 + 128) :: lenF f (n / 128)
def lenB (n : Nat) : List UInt8 := lenF 10 n
/-- The bytes of items. -/
def encI : Its → List UInt8
  | .nil => []
  | .cons k n t l r => (UInt8.ofNat k.toNat :: (lenB (n.data.toList ++ (t.data.toList ++ encI l)).length ++ (n.data.toList ++ (t.data.toList ++ encI l)))) ++ encI r
def bodyOne (x : Its.One) : List UInt8 := x.2.1.data.toList ++ (x.2.2.1.data.toList ++ encI x.2.2.2)
def encOne (x : Its.One) : List UInt8 := UInt8.ofNat x.1.toNat :: (lenB (bodyOne x).length ++ bodyOne x)
theorem encI_one (x : Its.One) : encI (Its.one x) = encOne x := by unfold Its.one encOne bodyOne; simp only [encI, List.append_nil]
theorem encI_app (a b : Its) : encI (a.app b) = encI a ++ encI b := by
  induction a with
  | nil => rfl
  | cons k n t l r _ ih => simp only [Its.app, encI, ih, List.append_assoc, List.cons_append]
def deepMax : Nat := 32
def textMax : Nat := 65536
/-- The encoding of an item, and the error. -/
def encS (x : Its.One) : ByteArray × Int :=
  if okOne x = true then (if deepOne x ≤ deepMax then (if (encOne x).length ≤ textMax then (⟨(encOne x).toArray⟩, 0) else (E0, 5)) else (E0, 7)) else (E0, 3)

/-! ### reading -/
/-- A length: the error, or the length and the bytes behind it. -/
def szS : Nat → Nat → List UInt8 → Option (Nat × List UInt8)
  | 0, _, _ => none
  | _ + 1, _, [] => none
  | f + 1, k, b :: r => if b.toNat = 0 ∧ 0 < k then none else if b.toNat < 128 then some (b.toNat, r) else
      match szS f (k + 1) r with
      | none => none
      | some (n, r') => some (b.toNat - 128 + 128 * n, r')
inductive Rd (α : Type) where
  | err (e : Int) : Rd α
  | ok (x : α) : Rd α
/-- One item: the error, or the item and the bytes behind it. -/
def rd1 (rec : List UInt8 → Rd Its) (lists : Nat) (s : List UInt8) : Rd (Its.One × List UInt8) :=
  match s with
  | [] => .err 4
  | b :: s => if 2 < b.toNat then .err 4 else if b.toNat = 2 ∧ lists = deepMax then .err 7 else
      match szS 5 0 s with
      | none => .err 4
      | some (n, r) => if r.length < n then .err 4 else
          if b.toNat = 0 then (if valid ⟨(r.take n).toArray⟩ = true then .ok ((0, ⟨(r.take n).toArray⟩, E0, .nil), r.drop n) else .err 4)
          else if b.toNat = 1 then .ok ((1, E0, ⟨(r.take n).toArray⟩, .nil), r.drop n)
          else match rec (r.take n) with
            | .err e => .err e
            | .ok l => .ok ((2, E0, E0, l), r.drop n)
/-- All items, with fuel. -/
def rdL : Nat → Nat → List UInt8 → Rd Its
  | 0, _, _ => .ok .nil
  | f + 1, lists, s => if s = [] then .ok .nil else
      match rd1 (rdL f (lists + 1)) lists s with
      | .err e => .err e
      | .ok (y, r) => match rdL f lists r with
        | .err e => .err e
        | .ok l => .ok (.cons y.1 y.2.1 y.2.2.1 y.2.2.2 l)
theorem szS_len {f k : Nat} {s r : List UInt8} {n : Nat} (h : szS f k s = some (n, r)) : r.length < s.length := by
  induction f generalizing k s n with
  | zero => simp [szS] at h
  | succ f ih =>
    cases s with
    | nil => simp [szS] at h
    | cons b s =>
      simp only [szS] at h
      split at h
      · cases h
      · split at h
        · simp only [Option.some.injEq, Prod.mk.injEq] at h; obtain ⟨_, rfl⟩ := h; simp
        · cases hs : szS f (k + 1) s with
          | none => rw [hs] at h; cases h
          | some x => rw [hs] at h; simp only [Option.some.injEq, Prod.mk.injEq] at h; have := ih (k := k + 1) (n := x.1) (s := s) (by rw [hs, ← h.2]); simp; omega
theorem rd1_len {rec : List UInt8 → Rd Its} {lists : Nat} {s : List UInt8} {y : Its.One} {r : List UInt8} (h : rd1 rec lists s = .ok (y, r)) : r.length < s.length := by
  cases s with
  | nil => simp [rd1] at h
  | cons b s =>
    simp only [rd1] at h
    split at h
    · cases h
    · split at h
      · cases h
      · cases hs : szS 5 0 s with
        | none => rw [hs] at h; cases h
        | some x =>
          have hl := szS_len (n := x.1) (r := x.2) hs
          rw [hs] at h
          dsimp only at h
          split at h
          · cases h
          · split at h
            · split at h
              · injection h with h; injection h with _ h; subst h; simp; omega
              · cases h
            · split at h
              · injection h with h; injection h with _ h; subst h; simp; omega
              · split at h
                · cases h
                · injection h with h; injection h with _ h; subst h; simp; omega
/-- The fuel does not matter. -/
theorem rd1_congr {rec rec' : List UInt8 → Rd Its} {lists : Nat} {s : List UInt8} (h : ∀ t, t.length < s.length → rec t = rec' t) : rd1 rec lists s = rd1 rec' lists s := by
  cases s with
  | nil => rfl
  | cons b s =>
    simp only [rd1]
    split
    · rfl
    · split
      · rfl
      · cases hs : szS 5 0 s with
        | none => rfl
        | some x =>
          have hl := szS_len (n := x.1) (r := x.2) hs
          dsimp only
          rw [h (x.2.take x.1) (by rw [List.length_take, List.length_cons]; omega)]
theorem rdL_fuel {f g : Nat} {lists : Nat} {s : List UInt8} (hf : s.length ≤ f) (hg : s.length ≤ g) : rdL f lists s = rdL g lists s := by
  induction f generalizing g lists s with
  | zero =>
    have : s = [] := List.eq_nil_of_length_eq_zero (by omega)
    subst this
    cases g <;> simp [rdL]
  | succ f ih =>
    cases g with
    | zero =>
      have : s = [] := List.eq_nil_of_length_eq_zero (by omega)
      subst this
      simp [rdL]
    | succ g =>
      simp only [rdL]
      by_cases hs : s = []
      · rw [if_pos hs, if_pos hs]
      · rw [if_neg hs, if_neg hs]
        rw [rd1_congr (rec := rdL f (lists + 1)) (rec' := rdL g (lists + 1)) (fun t ht => ih (by omega) (by omega))]
        cases hr : rd1 (rdL g (lists + 1)) lists s with
        | err e => rfl
        | ok y =>
          obtain ⟨y, r⟩ := y
          have hl := rd1_len hr
          dsimp only
          rw [ih (g := g) (lists := lists) (s := r) (by omega) (by omega)]
/-- All items of some bytes inside lists. -/
def rdA (lists : Nat) (s : List UInt8) : Rd Its := rdL s.length lists s
/-- The first item. -/
def rdO (lists : Nat) (s : List UInt8) : Rd (Its.One × List UInt8) := rd1 (rdA (lists + 1)) lists s
theorem rdA_nil (lists : Nat) : rdA lists [] = .ok .nil := rfl
theorem rdA_cons (lists : Nat) {s : List UInt8} (h : s ≠ []) : rdA lists s = (match rdO lists s with
    | .err e => .err e
    | .ok (y, r) => match rdA lists r with
      | .err e => .err e
      | .ok l => .ok (.cons y.1 y.2.1 y.2.2.1 y.2.2.2 l)) := by
  have hl := List.length_pos_iff.2 h
  unfold rdA rdO
  obtain ⟨f, hf⟩ : ∃ f, s.length = f + 1 := ⟨s.length - 1, by omega⟩
  rw [hf]
  conv => lhs; unfold rdL
  rw [if_neg h]
  rw [rd1_congr (rec := rdL f (lists + 1)) (rec' := rdA (lists + 1)) (fun t ht => rdL_fuel (by omega) (Nat.le_refl _))]
  cases hr : rd1 (rdA (lists + 1)) lists s with
  | err e => rfl
  | ok y =>
    obtain ⟨y, r⟩ := y
    have h2 := rd1_len hr
    dsimp only
    rw [rdL_fuel (f := f) (g := r.length) (lists := lists) (s := r) (by omega) (Nat.le_refl _)]
/-- Decode: the error, or the item. -/
def decS (s : ByteArray) : Rd Its.One :=
  if textMax < s.size then .err 5 else match rdO 0 s.data.toList with
    | .err e => .err e
    | .ok (y, r) => if r = [] then .ok y else .err 4

end Go.Proofs.Ytlheedcnmfekoaa
