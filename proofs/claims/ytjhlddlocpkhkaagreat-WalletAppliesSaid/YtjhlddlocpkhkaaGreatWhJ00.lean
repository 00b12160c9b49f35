/- Words for rows: what holds behind a call that makes new memory alone. Encoding, plain: lists of items as trees, their validity, depth and bytes; reading them back. Encoding: lists of items in memory; append of an item onto a row of the call's own. Encoding: Nat, Text, copied, List. -/
import Derived.Test.YtjhlddlocpkhkaaGreatRows
import Derived.WalkKit
import Derived.ProofKit
import Derived.OpenShut
import Derived.ChangeMaps5
import Derived.RowKit3
import Derived.Carry
import Derived.Below
import Derived.FnData
import Derived.Test.YtjhlddlocpkhkaaGreatTwWz
import Derived.Deep.RegionLaw
import Derived.Deep.RegionHeld3
namespace Go.Proofs.YtjhlddlocpkhkaaGreat
open Go.ChangeShapes Go.WideShapes Go.ChangeAt Go.WideElems Go.RowKit
set_option maxRecDepth 100000
theorem own : ownKnob Tryz.prog.godebug = none := by kernel_rfl
section
variable {H : Type} {enc : TypeId × Value → H} {P : Program}
theorem post_of_below {f : Func} {s : ChangeSpec} {apart fresh handsOn again : Bool} {W W' : World} {args : Array Value} {v : Value} {ds gs : List (DataW H)} {before pa pv : List MemPlace}
    (hW : DataW.Whole enc P f.params.toList s.vars apart W args.toList ds gs before)
    (hres : ∀ (b : Nat) (sp : Nat → Bool) (hd : Bool), DataW.TrodAll enc P W' b sp hd f.resultTypes.toList (v.resultList f.resultTypes.size) (s.fn H (ds ++ gs)).results [])
    (hargs : ∀ sp : Nat → Bool, (∀ p ∈ before, sp p.block = true) → DataW.TrodAll enc P W' 0 sp true f.params.toList args.toList (s.fn H (ds ++ gs)).args pa)
    (hvars : ∀ sp : Nat → Bool, (∀ p ∈ before, sp p.block = true) → DataW.TrodVars enc P W' sp s.vars (s.fn H (ds ++ gs)).vars pv)
    (hps : before = pa ++ pv) (hb : Below W.heap.size W W')
    (hok : ∀ (j : Nat) (t : TypeId) (r : Value), f.resultTypes[j]? = some t → (v.resultList f.resultTypes.size)[j]? = some r → Value.okWide P W' .any 0 t r) :
    s.post enc P f apart fresh handsOn again W args v W' := by
  have hlt : ∀ p ∈ before, p.block < W.heap.size := fun p hp => hW.lt p hp
  have hold : ∀ p ∈ before, (fun b => decide (b < W.heap.size)) p.block = true := fun p hp => by simpa using hlt p hp
  refine ⟨ds, gs, before, [], pa, pv, hW, hres _ _ _, hargs _ hold, hvars _ hold, World.keptBut_mono (fun p hp => ⟨hp, ?_⟩) (hb.frame (· ∈ before)), fun _ => ?_⟩
  · rw [hps, List.mem_append] at hp
    exact Or.inr hp
  · obtain ⟨_, _, _, _, _, hz, hn⟩ := hW
    refine ⟨hok, _, _, ([] ++ pa) ++ pv, ⟨[] ++ pa, pv, trodAll_append (hargs _ (fun _ _ => rfl)) (hres _ _ _), hvars _ (fun _ _ => rfl), rfl, ?_, ?_⟩, ?_⟩
    · intro b off hp
      have hin : MemPlace.cell b off ∈ before := by rw [hps]; simpa using hp
      rw [hb.frozen (hlt _ hin)]
      exact hz b off hin
    · intro ha
      have := hn ha
      rw [hps] at this
      simpa using this
    · intro p hp _
      rw [hps]
      simpa using hp
end
end Go.Proofs.YtjhlddlocpkhkaaGreat

namespace Go.Proofs.YtjhlddlocpkhkaaGreat
open Go.RowKit
set_option maxRecDepth 100000
set_option linter.unusedVariables false
/-- A list of items: kind, number, text, list of the first one, and the others. -/
inductive Its where
  | nil : Its
  | cons (k : Int) (n t : ByteArray) (l r : Its) : Its
namespace Its
def len : Its → Nat
  | .nil => 0
  | .cons _ _ _ _ r => r.len + 1
def size : Its → Nat
  | .nil => 0
  | .cons _ _ _ l r => l.size + r.size + 1
abbrev One := Int × ByteArray × ByteArray × Its
def get? : Its → Nat → Option One
  | .nil, _ => none
  | .cons k n t l _, 0 => some (k, n, t, l)
  | .cons _ _ _ _ r, i + 1 => r.get? i
def app : Its → Its → Its
  | .nil, b => b
  | .cons k n t l r, b => .cons k n t l (r.app b)
def one (x : One) : Its := .cons x.1 x.2.1 x.2.2.1 x.2.2.2 .nil
def take : Its → Nat → Its
  | _, 0 => .nil
  | .nil, _ + 1 => .nil
  | .cons k n t l r, i + 1 => .cons k n t l (r.take i)
def drop : Its → Nat → Its
  | x, 0 => x
  | .nil, _ + 1 => .nil
  | .cons _ _ _ _ r, i + 1 => r.drop i
theorem get_lt {x : Its} {i : Nat} (h : i < x.len) : ∃ y, x.get? i = some y := by
  induction x generalizing i with
  | nil => simp [len] at h
  | cons k n t l r _ ih =>
    cases i with
    | zero => exact ⟨_, rfl⟩
    | succ i => exact ih (by simp only [len] at h; omega)
theorem lt_get {x : Its} {i : Nat} {y : One} (h : x.get? i = some y) : i < x.len := by
  induction x generalizing i with
  | nil => simp [get?] at h
  | cons k n t l r _ ih =>
    cases i with
    | zero => simp [len]
    | succ i => have := ih h; simp only [len]; omega
theorem get_size {x : Its} {i : Nat} {y : One} (h : x.get? i = some y) : y.2.2.2.size < x.size := by
  induction x generalizing i with
  | nil => simp [get?] at h
  | cons k n t l r _ ih =>
    cases i with
    | zero => simp only [get?, Option.some.injEq] at h; subst h; simp only [size]; omega
    | succ i => have := ih h; simp only [size]; omega
theorem len_app (a b : Its) : (a.app b).len = a.len + b.len := by
  induction a with
  | nil => simp [app, len]
  | cons k n t l r _ ih => simp only [app, len, ih]; omega
theorem app_assoc (a b c : Its) : (a.app b).app c = a.app (b.app c) := by
  induction a with
  | nil => rfl
  | cons k n t l r _ ih => simp only [app, ih]
theorem app_nil (a : Its) : a.app .nil = a := by
  induction a with
  | nil => rfl
  | cons k n t l r _ ih => simp only [app, ih]
theorem take_zero (x : Its) : x.take 0 = .nil := by cases x <;> rfl
theorem take_all (x : Its) {i : Nat} (h : x.len ≤ i) : x.take i = x := by
  induction x generalizing i with
  | nil => cases i <;> rfl
  | cons k n t l r _ ih =>
    cases i with
    | zero => simp [len] at h
    | succ i => simp only [take]; rw [ih (by simp only [len] at h; omega)]
theorem take_succ {x : Its} {i : Nat} {y : One} (h : x.get? i = some y) : x.take (i + 1) = (x.take i).app (one y) := by
  induction x generalizing i with
  | nil => simp [get?] at h
  | cons k n t l r _ ih =>
    cases i with
    | zero => simp only [get?, Option.some.injEq] at h; subst h; simp [take, take_zero, app, one]
    | succ i =>
      have e := ih (i := i) h
      show Its.cons k n t l (r.take (i + 1)) = Its.cons k n t l ((r.take i).app (one y))
      rw [e]
theorem len_take (x : Its) {i : Nat} (h : i ≤ x.len) : (x.take i).len = i := by
  induction x generalizing i with
  | nil => simp only [len] at h; have : i = 0 := by omega
           subst this; rfl
  | cons k n t l r _ ih =>
    cases i with
    | zero => rfl
    | succ i => simp only [take, len]; rw [ih (by simp only [len] at h; omega)]
theorem drop_zero (x : Its) : x.drop 0 = x := by cases x <;> rfl
end Its
/-- Whether all items are valid. -/
def okI : Its → Bool
  | .nil => true
  | .cons k n t l r => (if k = 0 then valid n && (decide (t.size = 0) && decide (l.len = 0)) else if k = 1 then decide (n.size = 0) && decide (l.len = 0) else if k = 2 then okI l && (decide (n.size = 0) && decide (t.size = 0)) else false) && okI r
def okOne (x : Its.One) : Bool := okI (Its.one x)
theorem okI_get {x : Its} {i : Nat} {y : Its.One} (h : okI x = true) (hy : x.get? i = some y) : okOne y = true := by
  induction x generalizing i with
  | nil => simp [Its.get?] at hy
  | cons k n t l r _ ih =>
    simp only [okI, Bool.and_eq_true] at h
    cases i with
    | zero => simp only [Its.get?, Option.some.injEq] at hy; subst hy; unfold okOne Its.one; simp only [okI, Bool.and_true]; exact h.1
    | succ i => exact ih h.2 hy
theorem okI_not {x : Its} {i : Nat} {y : Its.One} (hy : x.get? i = some y) (h : okOne y = false) : okI x = false := by
  cases e : okI x
  · rfl
  · rw [okI_get e hy] at h; cases h
/-- The greatest depth of the items. -/
def deepI : Its → Nat
  | .nil => 0
  | .cons k _ _ l r => max (if k = 2 then deepI l + 1 else 0) (deepI r)
def deepOne (x : Its.One) : Nat := if x.1 = 2 then deepI x.2.2.2 + 1 else 0
theorem deepI_app (a b : Its) : deepI (a.app b) = max (deepI a) (deepI b) := by
  induction a with
  | nil => simp [Its.app, deepI]
  | cons k n t l r _ ih => simp only [Its.app, deepI, ih]; omega
theorem deepI_one (y : Its.One) : deepI (Its.one y) = deepOne y := by unfold Its.one deepOne; simp only [deepI]; omega
/-- A length in base 128. -/
def lenF : Nat → Nat → List UInt8
  | 0, _ => []
  | f + 1, n => if n < 128 then [UInt8.ofNat n] else UInt8.ofNat (n % 128 + 128) :: lenF f (n / 128)
def lenB (n : Nat) : List UInt8 := lenF 10 n
/-- The bytes of items. -/
def encI : Its → List UInt8
  | .nil => []
  | .cons k n t l r => (UInt8.ofNat k.toNat :: (lenB (n.data.toList ++ (t.data.toList ++ encI l)).length ++ (n.data.toList ++ (t.data.toList ++ encI l)))) ++ encI r
def bodyOne (x : Its.One) : List UInt8 := x.2.1.data.toList ++ (x.2.2.1.data.toList ++ encI x.2.2.2)
def encOne (x : Its.One) : List UInt8 := UInt8.ofNat x.1.toNat :: (lenB (bodyOne x).length ++ bodyOne x)
theorem encI_one (x : Its.One) : encI (Its.one x) = encOne x := by unfold Its.one encOne bodyOne; simp only [encI, List.append_nil]
theorem encI_app (a b : Its) : encI (a.app b) = encI a ++ encI b := by
  induction a with
  | nil => rfl
  | cons k n t l r _ ih => simp only [Its.app, encI, ih, List.append_assoc, List.cons_append]
def deepMax : Nat := 32
def textMax : Nat := 65536
/-- The encoding of an item, and the error. -/
def encS (x : Its.One) : ByteArray × Int :=
  if okOne x = true then (if deepOne x ≤ deepMax then (if (encOne x).length ≤ textMax then (⟨(encOne x).toArray⟩, 0) else (E0, 5)) else (E0, 7)) else (E0, 3)
/-- A length: the error, or the length and the bytes behind it. -/
def szS : Nat → Nat → List UInt8 → Option (Nat × List UInt8)
  | 0, _, _ => none
  | _ + 1, _, [] => none
  | f + 1, k, b :: r => if b.toNat = 0 ∧ 0 < k then none else if b.toNat < 128 then some (b.toNat, r) else
      match szS f (k + 1) r with
      | none => none
      | some (n, r') => some (b.toNat - 128 + 128 * n, r')
inductive Rd (α : Type) where
  | err (e : Int) : Rd α
  | ok (x : α) : Rd α
/-- One item: the error, or the item and the bytes behind it. -/
def rd1 (rec : List UInt8 → Rd Its) (lists : Nat) (s : List UInt8) : Rd (Its.One × List UInt8) :=
  match s with
  | [] => .err 4
  | b :: s => if 2 < b.toNat then .err 4 else if b.toNat = 2 ∧ lists = deepMax then .err 7 else
      match szS 5 0 s with
      | none => .err 4
      | some (n, r) => if r.length < n then .err 4 else
          if b.toNat = 0 then (if valid ⟨(r.take n).toArray⟩ = true then .ok ((0, ⟨(r.take n).toArray⟩, E0, .nil), r.drop n) else .err 4)
          else if b.toNat = 1 then .ok ((1, E0, ⟨(r.take n).toArray⟩, .nil), r.drop n)
          else match rec (r.take n) with
            | .err e => .err e
            | .ok l => .ok ((2, E0, E0, l), r.drop n)
/-- All items, with fuel. -/
def rdL : Nat → Nat → List UInt8 → Rd Its
  | 0, _, _ => .ok .nil
  | f + 1, lists, s => if s = [] then .ok .nil else
      match rd1 (rdL f (lists + 1)) lists s with
      | .err e => .err e
      | .ok (y, r) => match rdL f lists r with
        | .err e => .err e
        | .ok l => .ok (.cons y.1 y.2.1 y.2.2.1 y.2.2.2 l)
theorem szS_len {f k : Nat} {s r : List UInt8} {n : Nat} (h : szS f k s = some (n, r)) : r.length < s.length := by
  induction f generalizing k s n with
  | zero => simp [szS] at h
  | succ f ih =>
    cases s with
    | nil => simp [szS] at h
    | cons b s =>
      simp only [szS] at h
      split at h
      · cases h
      · split at h
        · simp only [Option.some.injEq, Prod.mk.injEq] at h; obtain ⟨_, rfl⟩ := h; simp
        · cases hs : szS f (k + 1) s with
          | none => rw [hs] at h; cases h
          | some x => rw [hs] at h; simp only [Option.some.injEq, Prod.mk.injEq] at h; have := ih (k := k + 1) (n := x.1) (s := s) (by rw [hs, ← h.2]); simp; omega
theorem rd1_len {rec : List UInt8 → Rd Its} {lists : Nat} {s : List UInt8} {y : Its.One} {r : List UInt8} (h : rd1 rec lists s = .ok (y, r)) : r.length < s.length := by
  cases s with
  | nil => simp [rd1] at h
  | cons b s =>
    simp only [rd1] at h
    split at h
    · cases h
    · split at h
      · cases h
      · cases hs : szS 5 0 s with
        | none => rw [hs] at h; cases h
        | some x =>
          have hl := szS_len (n := x.1) (r := x.2) hs
          rw [hs] at h
          dsimp only at h
          split at h
          · cases h
          · split at h
            · split at h
              · injection h with h; injection h with _ h; subst h; simp; omega
              · cases h
            · split at h
              · injection h with h; injection h with _ h; subst h; simp; omega
              · split at h
                · cases h
                · injection h with h; injection h with _ h; subst h; simp; omega
/-- The fuel does not matter. -/
theorem rd1_congr {rec rec' : List UInt8 → Rd Its} {lists : Nat} {s : List UInt8} (h : ∀ t, t.length < s.length → rec t = rec' t) : rd1 rec lists s = rd1 rec' lists s := by
  cases s with
  | nil => rfl
  | cons b s =>
    simp only [rd1]
    split
    · rfl
    · split
      · rfl
      · cases hs : szS 5 0 s with
        | none => rfl
        | some x =>
          have hl := szS_len (n := x.1) (r := x.2) hs
          dsimp only
          rw [h (x.2.take x.1) (by rw [List.length_take, List.length_cons]; omega)]
theorem rdL_fuel {f g : Nat} {lists : Nat} {s : List UInt8} (hf : s.length ≤ f) (hg : s.length ≤ g) : rdL f lists s = rdL g lists s := by
  induction f generalizing g lists s with
  | zero =>
    have : s = [] := List.eq_nil_of_length_eq_zero (by omega)
    subst this
    cases g <;> simp [rdL]
  | succ f ih =>
    cases g with
    | zero =>
      have : s = [] := List.eq_nil_of_length_eq_zero (by omega)
      subst this
      simp [rdL]
    | succ g =>
      simp only [rdL]
      by_cases hs : s = []
      · rw [if_pos hs, if_pos hs]
      · rw [if_neg hs, if_neg hs]
        rw [rd1_congr (rec := rdL f (lists + 1)) (rec' := rdL g (lists + 1)) (fun t ht => ih (by omega) (by omega))]
        cases hr : rd1 (rdL g (lists + 1)) lists s with
        | err e => rfl
        | ok y =>
          obtain ⟨y, r⟩ := y
          have hl := rd1_len hr
          dsimp only
          rw [ih (g := g) (lists := lists) (s := r) (by omega) (by omega)]
/-- All items of some bytes inside lists. -/
def rdA (lists : Nat) (s : List UInt8) : Rd Its := rdL s.length lists s
/-- The first item. -/
def rdO (lists : Nat) (s : List UInt8) : Rd (Its.One × List UInt8) := rd1 (rdA (lists + 1)) lists s
theorem rdA_nil (lists : Nat) : rdA lists [] = .ok .nil := rfl
theorem rdA_cons (lists : Nat) {s : List UInt8} (h : s ≠ []) : rdA lists s = (match rdO lists s with
    | .err e => .err e
    | .ok (y, r) => match rdA lists r with
      | .err e => .err e
      | .ok l => .ok (.cons y.1 y.2.1 y.2.2.1 y.2.2.2 l)) := by
  have hl := List.length_pos_iff.2 h
  unfold rdA rdO
  obtain ⟨f, hf⟩ : ∃ f, s.length = f + 1 := ⟨s.length - 1, by omega⟩
  rw [hf]
  conv => lhs; unfold rdL
  rw [if_neg h]
  rw [rd1_congr (rec := rdL f (lists + 1)) (rec' := rdA (lists + 1)) (fun t ht => rdL_fuel (by omega) (Nat.le_refl _))]
  cases hr : rd1 (rdA (lists + 1)) lists s with
  | err e => rfl
  | ok y =>
    obtain ⟨y, r⟩ := y
    have h2 := rd1_len hr
    dsimp only
    rw [rdL_fuel (f := f) (g := r.length) (lists := lists) (s := r) (by omega) (Nat.le_refl _)]
/-- Decode: the error, or the item. -/
def decS (s : ByteArray) : Rd Its.One :=
  if textMax < s.size then .err 5 else match rdO 0 s.data.toList with
    | .err e => .err e
    | .ok (y, r) => if r = [] then .ok y else .err 4
end Go.Proofs.YtjhlddlocpkhkaaGreat

namespace Go.Proofs.YtjhlddlocpkhkaaGreat
open Go.RowKit
set_option maxRecDepth 100000
set_option linter.unusedVariables false
set_option maxHeartbeats 1000000
theorem two_boxes (w : World) (o1 o2 : Obj) : ((w.alloc o1).alloc o2).heap[w.heap.size]? = some o1 ∧ ((w.alloc o1).alloc o2).heap[w.heap.size + 1]? = some o2 :=
  ⟨(Below.heap_alloc _ o2 _ (by simp)).trans (heap_alloc_new w _), by have := heap_alloc_new (w.alloc o1) o2; rwa [World.size_alloc] at this⟩
/-- Some cells in a row, in a block that S allows. -/
def RowC (w : World) (S : Nat → Prop) (A : Option Addr) (n : Nat) (L : List Value) : Prop :=
  0 < n → ∃ g off, A = some ⟨g, off, none⟩ ∧ S g ∧ ∀ j u, L[j]? = some u → w.cell? ⟨g, off + j, none⟩ = some u
/-- The cells of a list of items. -/
def RelI (w : World) (S : Nat → Prop) : Its → List Value → Prop
  | .nil, L => L = []
  | .cons k n t l r, L => ∃ A c L' R, L = .int .i64 k :: .string n :: .string t :: .slice A l.len c :: R ∧ RowC w S A l.len L' ∧ RelI w S l L' ∧ RelI w S r R
/-- A slice that holds a list of items. -/
def SlI (w : World) (S : Nat → Prop) (A : Option Addr) (l : Its) : Prop := ∃ L, RowC w S A l.len L ∧ RelI w S l L
section
variable {w w' : World} {S S' : Nat → Prop} {A : Option Addr} {n : Nat} {L : List Value} {l : Its}
theorem RowC.keep (h : RowC w S A n L) (hk : ∀ p : Addr, S p.block → w'.cell? p = w.cell? p) : RowC w' S A n L := fun hn => by
  obtain ⟨g, off, e, hs, hc⟩ := h hn
  exact ⟨g, off, e, hs, fun j u hu => (hk _ hs).trans (hc j u hu)⟩
theorem RowC.mono (h : RowC w S A n L) (hm : ∀ g, S g → S' g) : RowC w S' A n L := fun hn => by
  obtain ⟨g, off, e, hs, hc⟩ := h hn
  exact ⟨g, off, e, hm g hs, hc⟩
theorem RelI.keep (h : RelI w S l L) (hk : ∀ p : Addr, S p.block → w'.cell? p = w.cell? p) : RelI w' S l L := by
  induction l generalizing L with
  | nil => exact h
  | cons k n t l r ihl ihr =>
    obtain ⟨A, c, L', R, e, h1, h2, h3⟩ := h
    exact ⟨A, c, L', R, e, h1.keep hk, ihl h2, ihr h3⟩
theorem RelI.mono (h : RelI w S l L) (hm : ∀ g, S g → S' g) : RelI w S' l L := by
  induction l generalizing L with
  | nil => exact h
  | cons k n t l r ihl ihr =>
    obtain ⟨A, c, L', R, e, h1, h2, h3⟩ := h
    exact ⟨A, c, L', R, e, h1.mono hm, ihl h2, ihr h3⟩
theorem RelI.length (h : RelI w S l L) : L.length = l.len * 4 := by
  induction l generalizing L with
  | nil => cases h; rfl
  | cons k n t l r ihl ihr =>
    obtain ⟨A, c, L', R, e, h1, h2, h3⟩ := h
    rw [e]
    simp only [List.length_cons, ihr h3, Its.len]
    omega
theorem RelI.one (h : RelI w S l L) : ∀ v ∈ L, v.oneCell' = true := by
  induction l generalizing L with
  | nil => cases h; simp
  | cons k n t l r ihl ihr =>
    obtain ⟨A, c, L', R, e, h1, h2, h3⟩ := h
    rw [e]
    intro v hv
    simp only [List.mem_cons] at hv
    rcases hv with rfl | rfl | rfl | rfl | hv
    · rfl
    · rfl
    · rfl
    · rfl
    · exact ihr h3 v hv
theorem RelI.app {a b : Its} {La Lb : List Value} (h1 : RelI w S a La) (h2 : RelI w S b Lb) : RelI w S (a.app b) (La ++ Lb) := by
  induction a generalizing La with
  | nil => cases h1; exact h2
  | cons k n t l r ihl ihr =>
    obtain ⟨A, c, L', R, e, g1, g2, g3⟩ := h1
    exact ⟨A, c, L', R ++ Lb, by rw [e]; rfl, g1, g2, ihr g3⟩
theorem RelI.get (h : RelI w S l L) {i : Nat} {y : Its.One} (hy : l.get? i = some y) :
    ∃ A c, L[i * 4]? = some (.int .i64 y.1) ∧ L[i * 4 + 1]? = some (.string y.2.1) ∧ L[i * 4 + 2]? = some (.string y.2.2.1) ∧ L[i * 4 + 3]? = some (.slice A y.2.2.2.len c) ∧ SlI w S A y.2.2.2 := by
  induction l generalizing L i with
  | nil => simp [Its.get?] at hy
  | cons k n t l r ihl ihr =>
    obtain ⟨A, c, L', R, e, g1, g2, g3⟩ := h
    cases i with
    | zero =>
      simp only [Its.get?, Option.some.injEq] at hy
      subst hy
      subst e
      exact ⟨A, c, rfl, rfl, rfl, rfl, L', g1, g2⟩
    | succ i =>
      obtain ⟨A2, c2, a0, a1, a2, a3, a4⟩ := ihr g3 (i := i) hy
      subst e
      refine ⟨A2, c2, ?_, ?_, ?_, ?_, a4⟩
      · rw [show (i + 1) * 4 = i * 4 + 1 + 1 + 1 + 1 by omega]; simpa using a0
      · rw [show (i + 1) * 4 + 1 = i * 4 + 1 + 1 + 1 + 1 + 1 by omega]; simpa using a1
      · rw [show (i + 1) * 4 + 2 = i * 4 + 2 + 1 + 1 + 1 + 1 by omega]; simpa using a2
      · rw [show (i + 1) * 4 + 3 = i * 4 + 3 + 1 + 1 + 1 + 1 by omega]; simpa using a3
theorem SlI.keep (h : SlI w S A l) (hk : ∀ p : Addr, S p.block → w'.cell? p = w.cell? p) : SlI w' S A l := by
  obtain ⟨L, h1, h2⟩ := h
  exact ⟨L, h1.keep hk, h2.keep hk⟩
theorem SlI.mono (h : SlI w S A l) (hm : ∀ g, S g → S' g) : SlI w S' A l := by
  obtain ⟨L, h1, h2⟩ := h
  exact ⟨L, h1.mono hm, h2.mono hm⟩
theorem SlI.below {b : Nat} (h : SlI w S A l) (hb : Below b w w') (hs : ∀ g, S g → g < b) : SlI w' S A l := h.keep fun p hp => hb.cell (hs _ hp)
theorem SlI.nil_ : SlI w S none .nil := ⟨[], fun h => absurd h (by simp [Its.len]), rfl⟩
theorem SlI.drew (h : SlI w S A l) : SlI w.drew S A l := h.keep fun _ _ => rfl
theorem SlI.at_ (h : SlI w S A l) {i : Nat} {y : Its.One} (hy : l.get? i = some y) :
    ∃ g off A' c', A = some ⟨g, off, none⟩ ∧ S g ∧ w.cell? ⟨g, off + i * 4, none⟩ = some (.int .i64 y.1) ∧ w.cell? ⟨g, off + i * 4 + 1, none⟩ = some (.string y.2.1) ∧ w.cell? ⟨g, off + i * 4 + 2, none⟩ = some (.string y.2.2.1) ∧ w.cell? ⟨g, off + i * 4 + 3, none⟩ = some (.slice A' y.2.2.2.len c') ∧ SlI w S A' y.2.2.2 := by
  obtain ⟨L, h1, h2⟩ := h
  obtain ⟨g, off, e, hs, hc⟩ := h1 (Nat.lt_of_le_of_lt (Nat.zero_le _) (Its.lt_get hy))
  obtain ⟨A', c', a0, a1, a2, a3, a4⟩ := h2.get hy
  exact ⟨g, off, A', c', e, hs, hc _ _ a0, hc _ _ a1, hc _ _ a2, hc _ _ a3, a4⟩
end
/-- The cells of one item. -/
def cellsI (x : Its.One) (A : Option Addr) (c : Nat) : List Value := [.int .i64 x.1, .string x.2.1, .string x.2.2.1, .slice A x.2.2.2.len c]
/-- The value of one item. -/
def valI (x : Its.One) (A : Option Addr) (c : Nat) : Value := .agg #[.int .i64 x.1, .string x.2.1, .string x.2.2.1, .slice A x.2.2.2.len c]
theorem RelI.single {w : World} {S : Nat → Prop} {x : Its.One} {A : Option Addr} {c : Nat} (h : SlI w S A x.2.2.2) : RelI w S (Its.one x) (cellsI x A c) := by
  obtain ⟨L, h1, h2⟩ := h
  exact ⟨A, c, L, [], rfl, h1, h2, rfl⟩
/-- A row of items of the call's own; the items lie in other blocks. -/
def OwnI (w : World) (base : Nat) (v : Value) (l : Its) : Prop :=
  ∃ L, w.ownsRow base 63 4 v l.len L ∧ RelI w (fun g => base ≤ g ∧ g < w.heap.size ∧ v.ownBlock ≠ some g) l L
theorem OwnI.nil_ (w : World) (base : Nat) : OwnI w base (.slice none 0 0) .nil := ⟨[], World.ownsRow_nil w base _ 4, rfl⟩
theorem OwnI.blockOf {w : World} {base : Nat} {v : Value} {l : Its} (h : OwnI w base v l) : ∀ k, v.ownBlock = some k → base ≤ k ∧ k < w.heap.size := by
  obtain ⟨L, h1, _⟩ := h
  exact h1.lt
theorem OwnI.form {w : World} {base : Nat} {v : Value} {l : Its} (h : OwnI w base v l) : ∃ A c, v = .slice A l.len c ∧ SlI w (fun g => base ≤ g ∧ g < w.heap.size) A l := by
  obtain ⟨L, h1, h2⟩ := h
  rcases h1.2 with ⟨rfl, h0⟩ | ⟨g, cap, cur, rfl, hb, hg, _⟩
  · refine ⟨none, 0, by rw [h0], L, fun hn => absurd hn (by omega), h2.mono fun g hg => ⟨hg.1, hg.2.1⟩⟩
  · refine ⟨some ⟨g, 0, none⟩, cap, rfl, L, fun _ => ⟨g, 0, rfl, ⟨hb, (Array.getElem?_eq_some_iff.1 hg).1⟩, fun j u hu => ?_⟩, h2.mono fun g hg => ⟨hg.1, hg.2.1⟩⟩
    have := h1.cells (g := g) rfl j u hu
    rwa [addr_add] at this
theorem OwnI.kept {w w' : World} {base : Nat} {v : Value} {l : Its} (h : OwnI w base v l) (hb : Below w.heap.size w w') : OwnI w' base v l := by
  obtain ⟨L, h1, h2⟩ := h
  refine ⟨L, ⟨h1.1, ?_⟩, (h2.keep fun p hp => hb.cell hp.2.1).mono fun g hg => ⟨hg.1, Nat.lt_of_lt_of_le hg.2.1 hb.size, hg.2.2⟩⟩
  rcases h1.2 with hn | ⟨g, cap, cur, rfl, h3, hg, rest⟩
  · exact .inl hn
  · exact .inr ⟨g, cap, cur, rfl, h3, (hb.block g (Array.getElem?_eq_some_iff.1 hg).1).trans hg, rest⟩
theorem itemE : ∃ i : TypeInfo, Tryz.prog.info? 63 = some i ∧ i.zero = some (.agg #[.int .i64 0, .string ByteArray.empty, .string ByteArray.empty, .slice none 0 0]) ∧ i.size = 4 ∧ i.bytes = 64 := by
  have h : (Tryz.prog.info? 63).map (fun i => (i.zero, i.size, i.bytes)) = some (some (.agg #[.int .i64 0, .string ByteArray.empty, .string ByteArray.empty, .slice none 0 0]), 4, 64) := by kernel_rfl
  obtain ⟨i, h1, h2, h3, h4⟩ := info_parts h
  exact ⟨i, h1, h2, h3, h4⟩
end Go.Proofs.YtjhlddlocpkhkaaGreat

namespace Go.Proofs.YtjhlddlocpkhkaaGreat
open Go.RowKit
set_option maxRecDepth 100000
set_option linter.unusedVariables false
set_option maxHeartbeats 4000000
theorem enc_Nat (a : ByteArray) (w : World) : Calls Tryz.prog 112 #[.string a] w fun e w' => e = .returned (.agg #[.int .i64 0, .string a, .string ⟨#[]⟩, .slice none 0 0]) ∧ Below w.heap.size w w' := by
  go_enter Tryz.func112, Tryz.ntmps112
  go_wp2
  refine bodyPost_ret (v := .agg #[.int .i64 0, .string a, .string ⟨#[]⟩, .slice none 0 0]) (by simp [results, Tryz.results112, go_sem]) rfl ?_
  exact ⟨rfl, (Below.refl _ _).alloc (Nat.le_refl _) _⟩
theorem enc_Text (a : ByteArray) (w : World) : Calls Tryz.prog 78 #[.string a] w fun e w' => e = .returned (.agg #[.int .i64 1, .string ⟨#[]⟩, .string a, .slice none 0 0]) ∧ Below w.heap.size w w' := by
  go_enter Tryz.func78, Tryz.ntmps78
  go_wp2
  refine bodyPost_ret (v := .agg #[.int .i64 1, .string ⟨#[]⟩, .string a, .slice none 0 0]) (by simp [results, Tryz.results78, go_sem]) rfl ?_
  exact ⟨rfl, (Below.refl _ _).alloc (Nat.le_refl _) _⟩
theorem Its.len_size (l : Its) : l.len ≤ l.size := by
  induction l with
  | nil => exact Nat.le_refl _
  | cons k n t l r _ ih => simp only [Its.len, Its.size]; omega
/-- An item that a call hands back: its lists lie in memory that the call made. -/
def ItOut (y : Its.One) (w : World) (e : Ending) (w' : World) : Prop :=
  ∃ A c, e = .returned (.agg #[.int .i64 y.1, .string y.2.1, .string y.2.2.1, .slice A y.2.2.2.len c]) ∧ SlI w' (fun g => w.heap.size ≤ g ∧ g < w'.heap.size) A y.2.2.2 ∧ Below w.heap.size w w'
/-- append of one new item in a drawn region. -/
theorem step_append_I {ops : Array Oper} {o : Oper} {a : Act} {K : Act → World → Prop} {Q : Exit → Act → World → Prop} {E : Prop} {w : World} (hgd : o.guard = none) (s x : Operand)
    (ho : o.op = .call { callee := .builtin .append, args := #[s, x], argTypes := #[61, 61] })
    (base : Nat) (v : Value) (l : Its) (hs : a.eval s = v) (hown : OwnI w base v l) (y : Its.One) (A : Option Addr) (c g c' : Nat) (hx : a.eval x = .slice (some ⟨g, 0, none⟩) 1 c')
    (hg : w.heap[g]? = some (.cells (cellsI y A c).toArray 63 (0, 0))) (hy : SlI w (fun g => base ≤ g ∧ g < w.heap.size ∧ v.ownBlock ≠ some g) A y.2.2.2) (hsz : l.len ≤ 100000) (hbase : base ≤ w.heap.size)
    (h : ∀ v' w', OwnI w' base v' (l.app (Its.one y)) → w.grownBy w' v.ownBlock → K (a.put o.dst v') w') : if Region.wanted o (yielded ops a.tmps) = true then Oper.wp Tryz.prog o a w K Q else E := by
  obtain ⟨i, hi, hz, hs1, hb1⟩ := itemE
  have hbk := hown.blockOf
  obtain ⟨L, h1, h2⟩ := hown
  have hlt : g < w.heap.size := (Array.getElem?_eq_some_iff.1 hg).1
  have hr : Reads w w.heap.size 4 (some ⟨g, 0, none⟩) 1 (cellsI y A c) := ⟨rfl, fun _ => ⟨_, rfl, hlt, fun j u hu => by
    rw [addr_add, Nat.zero_add]
    have := cell_of_row w g j _ _ _ hg
    rw [this, ← hu]
    simp⟩⟩
  have hone : ∀ u ∈ cellsI y A c, u.oneCell' = true := fun u hu => by
    simp only [cellsI, List.mem_cons, List.not_mem_nil, or_false] at hu
    rcases hu with rfl | rfl | rfl | rfl <;> rfl
  refine step_append_any w hgd s x 61 ho base 63 i (.agg #[.int .i64 0, .string ByteArray.empty, .string ByteArray.empty, .slice none 0 0]) 4 64 Tryz.underlying61 hi hz hs1 hb1 rfl (by decide) v l.len L hs h1 w.heap.size (some ⟨g, 0, none⟩) 1 c' (cellsI y A c) hx hr hone (by unfold maxLen; omega) (by omega) hbase ?_
  intro v' w' g1 g2 g3
  have hkeep : ∀ p : Addr, (base ≤ p.block ∧ p.block < w.heap.size ∧ v.ownBlock ≠ some p.block) → w'.cell? p = w.cell? p := fun p hp => World.cell?_of_block (g2.block p.block hp.2.1 (fun e => hp.2.2 e.symm))
  have hset : ∀ k, (base ≤ k ∧ k < w.heap.size ∧ v.ownBlock ≠ some k) → (base ≤ k ∧ k < w'.heap.size ∧ v'.ownBlock ≠ some k) := fun k hk => by
    refine ⟨hk.1, Nat.lt_of_lt_of_le hk.2.1 g2.size, ?_⟩
    rcases g3 with e | e
    · rw [e]; exact hk.2.2
    · rw [e]; intro e2; injection e2 with e2; have := hk.2.1; omega
  refine h v' w' ⟨L ++ cellsI y A c, by rw [Its.len_app]; exact g1, ((h2.keep hkeep).mono hset).app (RelI.single ((hy.keep hkeep).mono hset))⟩ g2
/-- The memory of a copy under way: the result, the new item, its row, and the row that is copied. -/
structure CpAt (w : World) (S : Nat → Prop) (k : Int) (n t : ByteArray) (A : Option Addr) (l : Its) (v : Value) (d : Its) (br bo : Nat) (wr : World) : Prop where
  res : wr.heap[br]? = some (.cells #[.int .i64 0, .string ⟨#[]⟩, .string ⟨#[]⟩, .slice none 0 0] 63 (0, 0))
  out : wr.heap[bo]? = some (.cells #[.int .i64 k, .string n, .string t, v] 63 (0, 0))
  own : OwnI wr (bo + 1) v d
  src : SlI wr S A l
  bel : Below w.heap.size w wr
  lo : w.heap.size ≤ br
  lt : br < bo
  size : bo < wr.heap.size
section
variable {w wr w' : World} {S : Nat → Prop} {k : Int} {n t : ByteArray} {A : Option Addr} {l d : Its} {v : Value} {br bo : Nat}
theorem CpAt.next (h : CpAt w S k n t A l v d br bo wr) (hS : ∀ g, S g → g < w.heap.size) (hb : Below wr.heap.size wr w') : CpAt w S k n t A l v d br bo w' :=
  ⟨(hb.block _ (Nat.lt_trans h.lt h.size)).trans h.res, (hb.block _ h.size).trans h.out, h.own.kept hb, h.src.below hb (fun g hg => Nat.lt_of_lt_of_le (hS g hg) h.bel.size), below2 h.bel hb, h.lo, h.lt, Nat.lt_of_lt_of_le h.size hb.size⟩
theorem CpAt.alloc (h : CpAt w S k n t A l v d br bo wr) (hS : ∀ g, S g → g < w.heap.size) (o : Obj) : CpAt w S k n t A l v d br bo (wr.alloc o) := h.next hS ((Below.refl _ _).alloc (Nat.le_refl _) _)
theorem CpAt.drew (h : CpAt w S k n t A l v d br bo wr) (hS : ∀ g, S g → g < w.heap.size) : CpAt w S k n t A l v d br bo wr.drew := h.next hS (Below.refl _ _).drew
theorem CpAt.put {v5 : Value} {y : Its.One} (h : CpAt w S k n t A l v d br bo wr) (hS : ∀ g, S g → g < w.heap.size) (hown : OwnI w' (bo + 1) v5 (d.app (Its.one y))) (hg : wr.grownBy w' v.ownBlock) :
    CpAt w S k n t A l v5 (d.app (Its.one y)) br bo (w'.setCell ⟨bo, 3, none⟩ v5) := by
  have hbk := h.own.blockOf
  have hne : ∀ k, k < bo + 1 → k < wr.heap.size → w'.heap[k]? = wr.heap[k]? := fun k hk hs => hg.block k hs (fun e => by have := (hbk k e.symm).1; omega)
  have hout := (hne bo (by omega) h.size).trans h.out
  have hb : Below w.heap.size w w' := h.bel.grown hg h.bel.size (fun k hk => by have := (hbk k hk).1; have := h.lo; have := h.lt; omega)
  have hcell : ∀ p : Addr, p.block ≠ bo → (w'.setCell ⟨bo, 3, none⟩ v5).cell? p = w'.cell? p := fun p hp => World.cell?_setCell_other _ _ _ _ (fun e => hp (by have := congrArg Addr.block e; first | exact this | exact this.symm))
  have hlt := h.lt
  have hlo := h.lo
  refine ⟨?_, ?_, ?_, ?_, hb.setCell (p := ⟨bo, 3, none⟩) (Nat.le_trans hlo (Nat.le_of_lt hlt)) _, hlo, hlt, by rw [World.size_setCell]; exact Nat.lt_of_lt_of_le h.size hg.size⟩
  · exact (heap_setCell_other w' ⟨bo, 3, none⟩ br v5 (Nat.ne_of_lt hlt)).trans ((hne br (by omega) (Nat.lt_trans hlt h.size)).trans h.res)
  · rw [heap_setCell_same _ _ 3 _ _ v5 hout]
    rfl
  · have hb5 := hown.blockOf
    obtain ⟨L, h1, h2⟩ := hown
    exact ⟨L, ownsRow_setCell_below h1 (a := ⟨bo, 3, none⟩) (Nat.lt_succ_self _) v5, (h2.keep fun p hp => hcell p (by have := hp.1; omega)).mono fun g hg => ⟨hg.1, by rw [World.size_setCell]; exact hg.2.1, hg.2.2⟩⟩
  · refine h.src.keep fun p hp => ?_
    have h1 := hS _ hp
    rw [hcell p (by omega)]
    exact World.cell?_of_block (hne p.block (by omega) (Nat.lt_of_lt_of_le h1 h.bel.size))
theorem CpAt.outBlk (h : CpAt w S k n t A l v d br bo wr) (hg : wr.grownBy w' v.ownBlock) : w'.heap[bo]? = some (.cells #[.int .i64 k, .string n, .string t, v] 63 (0, 0)) :=
  (hg.block bo h.size (fun e => by have := (h.own.blockOf bo e.symm).1; omega)).trans h.out
theorem CpAt.start {W1 : World} (hb : Below w.heap.size w W1) (hs : SlI w S A l) (hS : ∀ g, S g → g < w.heap.size) :
    CpAt w S k n t A l (.slice none 0 0) .nil W1.heap.size (W1.heap.size + 1) ((W1.alloc (.cells #[.int .i64 0, .string ⟨#[]⟩, .string ⟨#[]⟩, .slice none 0 0] 63)).alloc (.cells #[.int .i64 k, .string n, .string t, .slice none 0 0] 63)) := by
  obtain ⟨h1, h2⟩ := two_boxes W1 (.cells #[.int .i64 0, .string ⟨#[]⟩, .string ⟨#[]⟩, .slice none 0 0] 63) (.cells #[.int .i64 k, .string n, .string t, .slice none 0 0] 63)
  have hb2 : Below w.heap.size w ((W1.alloc (.cells #[.int .i64 0, .string ⟨#[]⟩, .string ⟨#[]⟩, .slice none 0 0] 63)).alloc (.cells #[.int .i64 k, .string n, .string t, .slice none 0 0] 63)) :=
    (hb.alloc hb.size _).alloc (by have := hb.size; simp; omega) _
  exact ⟨h1, h2, OwnI.nil_ _ _, hs.below hb2 hS, hb2, hb.size, Nat.lt_succ_self _, by simp⟩
/-- What the next item is laid beside. -/
theorem fresh_apart {W1 w5 : World} {A5 : Option Addr} {y : Its.One} (h : CpAt w S k n t A l v d br bo wr) (h1 : wr.heap.size ≤ W1.heap.size) (hs : SlI w5 (fun g => W1.heap.size ≤ g ∧ g < w5.heap.size) A5 y.2.2.2) (o : Obj) :
    SlI (w5.alloc o) (fun g => bo + 1 ≤ g ∧ g < (w5.alloc o).heap.size ∧ v.ownBlock ≠ some g) A5 y.2.2.2 := by
  have hz := h.size
  refine (hs.keep fun p hp => World.cell?_alloc_lt w5 o p hp.2).mono fun g hg => ⟨by omega, by simp; omega, fun e => ?_⟩
  have := (h.own.blockOf g e).2
  omega
end
end Go.Proofs.YtjhlddlocpkhkaaGreat
