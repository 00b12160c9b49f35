/- Wallet: requests and credentials in memory; wallets of the call's own. -/
import Derived.Test.YtlheedcnmfekoaaXb
namespace Go.Proofs.Ytlheedcnmfekoaa
open Go.RowKit
set_option maxRecDepth 100000
set_option linter.unusedVariables false
set_option maxHeartbeats 4000000

/-- A request: issuer, schema, nonce, secret, blind. -/
abbrev Az := ByteArray × ByteArray × ByteArray × ByteArray × ByteArray
def cellsA : List Az → List Value
  | [] => []
  | (i, s, n, x, b) :: r => .string i :: .string s :: .string n :: .string x :: .string b :: cellsA r
theorem cellsA_len (l : List Az) : (cellsA l).length = l.length * 5 := by
  induction l with
  | nil => rfl
  | cons x r ih => obtain ⟨i, s, n, x, b⟩ := x; simp only [cellsA, List.length_cons, ih]; omega
theorem cellsA_one (l : List Az) : ∀ u ∈ cellsA l, u.oneCell' = true := by
  induction l with
  | nil => intro u hu; cases hu
  | cons x r ih =>
    obtain ⟨i, s, n, x, b⟩ := x
    intro u hu
    simp only [cellsA, List.mem_cons] at hu
    rcases hu with rfl | rfl | rfl | rfl | rfl | hu
    · rfl
    · rfl
    · rfl
    · rfl
    · rfl
    · exact ih u hu
def cellsN (l : List ByteArray) : List Value := l.map Value.string
theorem cellsN_len (l : List ByteArray) : (cellsN l).length = l.length * 1 := by unfold cellsN; simp
theorem cellsN_one (l : List ByteArray) : ∀ u ∈ cellsN l, u.oneCell' = true := by
  intro u hu
  obtain ⟨x, _, rfl⟩ := List.mem_map.1 hu
  rfl
/-- A credential that is held. -/
structure Hz where
  iss : ByteArray
  sch : ByteArray
  ver : Int
  att : List ByteArray
  a : ByteArray
  e : ByteArray
  v : ByteArray
  ep : Int
  wit : ByteArray
/-- The cells of credentials. -/
def RelH (w : World) (S : Nat → Prop) : List Hz → List Value → Prop
  | [], L => L = []
  | h :: r, L => ∃ A c R, L = .string h.iss :: .string h.sch :: .int .i64 h.ver :: .slice A h.att.length c :: .string h.a :: .string h.e :: .string h.v :: .int .i64 h.ep :: .string h.wit :: R ∧ RowC w S A h.att.length (cellsN h.att) ∧ RelH w S r R
section
variable {w w' : World} {S S' : Nat → Prop} {hs : List Hz} {L : List Value}
theorem RelH.keep (h : RelH w S hs L) (hk : ∀ p : Addr, S p.block → w'.cell? p = w.cell? p) : RelH w' S hs L := by
  induction hs generalizing L with
  | nil => exact h
  | cons x r ih =>
    obtain ⟨A, c, R, e, h1, h2⟩ := h
    exact ⟨A, c, R, e, h1.keep hk, ih h2⟩
theorem RelH.mono (h : RelH w S hs L) (hm : ∀ g, S g → S' g) : RelH w S' hs L := by
  induction hs generalizing L with
  | nil => exact h
  | cons x r ih =>
    obtain ⟨A, c, R, e, h1, h2⟩ := h
    exact ⟨A, c, R, e, h1.mono hm, ih h2⟩
theorem RelH.length (h : RelH w S hs L) : L.length = hs.length * 9 := by
  induction hs generalizing L with
  | nil => cases h; rfl
  | cons x r ih =>
    obtain ⟨A, c, R, e, h1, h2⟩ := h
    rw [e]
    simp only [List.length_cons, ih h2]
    omega
theorem RelH.one (h : RelH w S hs L) : ∀ v ∈ L, v.oneCell' = true := by
  induction hs generalizing L with
  | nil => cases h; simp
  | cons x r ih =>
    obtain ⟨A, c, R, e, h1, h2⟩ := h
    rw [e]
    intro v hv
    simp only [List.mem_cons] at hv
    rcases hv with rfl | rfl | rfl | rfl | rfl | rfl | rfl | rfl | rfl | hv
    · rfl
    · rfl
    · rfl
    · rfl
    · rfl
    · rfl
    · rfl
    · rfl
    · rfl
    · exact ih h2 v hv
theorem RelH.app {a b : List Hz} {La Lb : List Value} (h1 : RelH w S a La) (h2 : RelH w S b Lb) : RelH w S (a ++ b) (La ++ Lb) := by
  induction a generalizing La with
  | nil => cases h1; exact h2
  | cons x r ih =>
    obtain ⟨A, c, R, e, g1, g2⟩ := h1
    exact ⟨A, c, R ++ Lb, by rw [e]; rfl, g1, ih g2⟩
/-- The nine cells of a credential. -/
def cellsH (x : Hz) (A : Option Addr) (c : Nat) : List Value := [.string x.iss, .string x.sch, .int .i64 x.ver, .slice A x.att.length c, .string x.a, .string x.e, .string x.v, .int .i64 x.ep, .string x.wit]
theorem RelH.single {x : Hz} {A : Option Addr} {c : Nat} (h : RowC w S A x.att.length (cellsN x.att)) : RelH w S [x] (cellsH x A c) := ⟨A, c, [], rfl, h, rfl⟩
theorem RelH.split {k : Nat} {x : Hz} (h : RelH w S hs L) (hx : hs[k]? = some x) : ∃ La A c Lb, L = La ++ (cellsH x A c ++ Lb) ∧ RelH w S (hs.take k) La ∧ RowC w S A x.att.length (cellsN x.att) ∧ RelH w S (hs.drop (k + 1)) Lb := by
  induction hs generalizing L k with
  | nil => simp at hx
  | cons y r ih =>
    obtain ⟨A, c, R, e, h1, h2⟩ := h
    cases k with
    | zero =>
      simp only [List.getElem?_cons_zero, Option.some.injEq] at hx
      subst hx
      exact ⟨[], A, c, R, by rw [e]; rfl, rfl, h1, h2⟩
    | succ k =>
      simp only [List.getElem?_cons_succ] at hx
      obtain ⟨La, A2, c2, Lb, e2, g1, g2, g3⟩ := ih h2 hx
      exact ⟨cellsH y A c ++ La, A2, c2, Lb, by rw [e, e2]; rfl, ⟨A, c, La, rfl, h1, g1⟩, g2, g3⟩
end
/-- A slice of requests, a slice of credentials. -/
def SlA (w : World) (S : Nat → Prop) (A : Option Addr) (qs : List Az) : Prop := RowC w S A qs.length (cellsA qs)
def SlH (w : World) (S : Nat → Prop) (A : Option Addr) (hs : List Hz) : Prop := ∃ L, RowC w S A hs.length L ∧ RelH w S hs L
section
variable {w w' : World} {S S' : Nat → Prop} {A : Option Addr} {hs : List Hz}
theorem SlH.keep (h : SlH w S A hs) (hk : ∀ p : Addr, S p.block → w'.cell? p = w.cell? p) : SlH w' S A hs := by
  obtain ⟨L, h1, h2⟩ := h
  exact ⟨L, h1.keep hk, h2.keep hk⟩
theorem SlH.mono (h : SlH w S A hs) (hm : ∀ g, S g → S' g) : SlH w S' A hs := by
  obtain ⟨L, h1, h2⟩ := h
  exact ⟨L, h1.mono hm, h2.mono hm⟩
end

/-! ### rows of the call's own -/
section
variable {w w' : World} {base : Nat} {e : TypeId} {size : Nat} {v : Value} {n : Nat} {xs : List Value}
theorem owns_below (h : w.ownsRow base e size v n xs) (hb : Below w.heap.size w w') : w'.ownsRow base e size v n xs := by
  refine ⟨h.1, ?_⟩
  rcases h.2 with hn | ⟨g, cap, cur, rfl, h3, hg, rest⟩
  · exact .inl hn
  · exact .inr ⟨g, cap, cur, rfl, h3, (hb.block g (Array.getElem?_eq_some_iff.1 hg).1).trans hg, rest⟩
theorem owns_set (h : w.ownsRow base e size v n xs) {p : Addr} (hp : v.ownBlock ≠ some p.block) (u : Value) : (w.setCell p u).ownsRow base e size v n xs := by
  refine ⟨h.1, ?_⟩
  rcases h.2 with hn | ⟨g, cap, cur, rfl, h3, hg, rest⟩
  · exact .inl hn
  · exact .inr ⟨g, cap, cur, rfl, h3, (heap_setCell_other _ _ _ _ (fun e => hp (by rw [← e]; rfl))).trans hg, rest⟩
theorem owns_grown {r : Option Nat} (h : w.ownsRow base e size v n xs) (hg : w.grownBy w' r) (hr : ∀ g, v.ownBlock = some g → r ≠ some g) : w'.ownsRow base e size v n xs := by
  refine h.kept hg ?_
  cases hv : v.ownBlock with
  | none => exact .inl rfl
  | some g => exact .inr (fun e => hr g hv e.symm)
theorem owns_mono {base' : Nat} (h : w.ownsRow base e size v n xs) (hb : base' ≤ base) : w.ownsRow base' e size v n xs := by
  refine ⟨h.1, ?_⟩
  rcases h.2 with hn | ⟨g, cap, cur, rfl, h3, rest⟩
  · exact .inl hn
  · exact .inr ⟨g, cap, cur, rfl, Nat.le_trans hb h3, rest⟩
theorem owns_shape (h : w.ownsRow base e size v n xs) : ∃ A c, v = .slice A n c := by
  rcases h.2 with ⟨rfl, h0⟩ | ⟨g, cap, cur, rfl, _⟩
  · exact ⟨none, 0, by rw [h0]⟩
  · exact ⟨_, _, rfl⟩
theorem owns_row {A : Option Addr} {c : Nat} (h : w.ownsRow base e size (.slice A n c) n xs) : RowC w (fun g => base ≤ g ∧ g < w.heap.size) A n xs := by
  intro hn
  rcases h.2 with ⟨hv, h0⟩ | ⟨g, cap, cur, hv, hb, hg, _⟩
  · omega
  · injection hv with h1 _ h3
    subst h1
    refine ⟨g, 0, rfl, ⟨hb, (Array.getElem?_eq_some_iff.1 hg).1⟩, fun j u hu => ?_⟩
    have := h.cells (g := g) rfl j u hu
    rwa [addr_add] at this
end

/-- A wallet of the call's own. -/
structure OwnW (w : World) (base : Nat) (qs : List Az) (hs : List Hz) (us : List Uz) (vA vH vU : Value) : Prop where
  a : w.ownsRow base 37 5 vA qs.length (cellsA qs)
  h : ∃ L, w.ownsRow base 44 9 vH hs.length L ∧ RelH w (fun g => base ≤ g ∧ g < w.heap.size ∧ vA.ownBlock ≠ some g ∧ vH.ownBlock ≠ some g ∧ vU.ownBlock ≠ some g) hs L
  u : w.ownsRow base 56 3 vU us.length (cellsU us)
  ah : ∀ g, vA.ownBlock = some g → vH.ownBlock ≠ some g
  au : ∀ g, vA.ownBlock = some g → vU.ownBlock ≠ some g
  hu : ∀ g, vH.ownBlock = some g → vU.ownBlock ≠ some g
/-- A wallet in memory. -/
structure WalM (w : World) (S : Nat → Prop) (qs : List Az) (hs : List Hz) (us : List Uz) (Aa Ah Au : Option Addr) : Prop where
  a : SlA w S Aa qs
  h : SlH w S Ah hs
  u : SlU w S Au us
theorem WalM.keep {w w' : World} {S : Nat → Prop} {qs : List Az} {hs : List Hz} {us : List Uz} {Aa Ah Au : Option Addr} (h : WalM w S qs hs us Aa Ah Au) (hk : ∀ p : Addr, S p.block → w'.cell? p = w.cell? p) : WalM w' S qs hs us Aa Ah Au :=
  ⟨RowC.keep h.a hk, h.h.keep hk, RowC.keep h.u hk⟩
theorem WalM.mono {w : World} {S S' : Nat → Prop} {qs : List Az} {hs : List Hz} {us : List Uz} {Aa Ah Au : Option Addr} (h : WalM w S qs hs us Aa Ah Au) (hm : ∀ g, S g → S' g) : WalM w S' qs hs us Aa Ah Au :=
  ⟨RowC.mono h.a hm, h.h.mono hm, RowC.mono h.u hm⟩
theorem OwnW.form {w : World} {base : Nat} {qs : List Az} {hs : List Hz} {us : List Uz} {Aa Ah Au : Option Addr} {ca ch cu : Nat} (h : OwnW w base qs hs us (.slice Aa qs.length ca) (.slice Ah hs.length ch) (.slice Au us.length cu)) : WalM w (fun g => base ≤ g ∧ g < w.heap.size) qs hs us Aa Ah Au := by
  obtain ⟨L, h1, h2⟩ := h.h
  exact ⟨owns_row h.a, ⟨L, owns_row h1, h2.mono fun g hg => ⟨hg.1, hg.2.1⟩⟩, owns_row h.u⟩

end Go.Proofs.Ytlheedcnmfekoaa
