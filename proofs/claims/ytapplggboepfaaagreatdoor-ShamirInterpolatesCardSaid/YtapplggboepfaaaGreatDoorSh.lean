/- The walk of the closure in shamir.through: the product times X - x. -/
import Derived.Test.YtapplggboepfaaaGreatDoorSe
import Derived.Test.YtapplggboepfaaaGreatDoorBZ
import Derived.Deep.DeepCutAuto
import Derived.Deep.CutBlock
import Derived.Deep.RegionHeld3
namespace Go.Proofs.YtapplggboepfaaaGreatDoor
open Go.RowKit
set_option maxRecDepth 100000
set_option linter.unusedVariables false
set_option maxHeartbeats 4000000

/-- A row of numbers that may be written. -/
def RowN (W : World) (g : Nat) (L : List Nat) : Prop := ∀ j, j < L.length → W.cell? ⟨g, j, none⟩ = some (.string (B (L.getD j 0))) ∧ W.frozen? ⟨g, j, none⟩ = false
section
variable {W W' : World} {g : Nat} {L : List Nat}
theorem RowN.below {b : Nat} (h : RowN W g L) (hg : g < b) (hb : Below b W W') : RowN W' g L :=
  fun j hj => ⟨(hb.cell (p := ⟨g, j, none⟩) hg).trans (h j hj).1, (hb.frozen (p := ⟨g, j, none⟩) hg).trans (h j hj).2⟩
theorem RowN.next (h : RowN W g L) (hb : Below W.heap.size W W') : RowN W' g L :=
  fun j hj => ⟨(hb.cell (p := ⟨g, j, none⟩) (cell_in (h j hj).1)).trans (h j hj).1, (hb.frozen (p := ⟨g, j, none⟩) (cell_in (h j hj).1)).trans (h j hj).2⟩
theorem RowN.drew (h : RowN W g L) : RowN W.drew g L := h.next (Below.refl _ _).drew
theorem RowN.far (h : RowN W g L) {p : Addr} (hp : p.block ≠ g) (v : Value) : RowN (W.setCell p v) g L :=
  fun j hj => ⟨(World.cell?_setCell_other W p _ v (fun e => hp (by rw [e]))).trans (h j hj).1, (World.frozen?_setCell _ _ _ _).trans (h j hj).2⟩
theorem RowN.set (h : RowN W g L) {k v : Nat} (hk : k < L.length) : RowN (W.setCell ⟨g, k, none⟩ (.string (B v))) g (L.set k v) := by
  intro j hj
  rw [List.length_set] at hj
  refine ⟨?_, (World.frozen?_setCell _ _ _ _).trans (h j hj).2⟩
  by_cases e : j = k
  · subst e
    rw [World.cell?_setCell_same _ _ _ (h j hj).1]
    simp [List.getD_eq_getElem?_getD, hj]
  · refine (World.cell?_setCell_other _ _ _ _ (by first | (simp; done) | (simp; omega))).trans ?_
    rw [(h j hj).1]
    simp [List.getD_eq_getElem?_getD, Ne.symm e]
theorem RowN.sls (h : RowN W g L) : SLs W W.heap.size (some ⟨g, 0, none⟩) (L.map B) := by
  intro hne
  have h0 : 0 < L.length := by
    rcases Nat.eq_zero_or_pos L.length with e | e
    · exact absurd (by rw [List.eq_nil_of_length_eq_zero e]; rfl) hne
    · exact e
  refine ⟨_, rfl, cell_in (h 0 h0).1, fun j hj => ?_⟩
  rw [List.length_map] at hj
  rw [addr_add, Nat.zero_add, (h j hj).1, map_B_getD L hj]
theorem RowN.made (W : World) (n : Nat) (T : TypeId) : RowN (W.alloc (.cells (List.replicate n (Value.string ByteArray.empty)).toArray T)) W.heap.size (List.replicate n 0) := by
  intro j hj
  rw [List.length_replicate] at hj
  have h := heap_alloc_new W (.cells (List.replicate n (Value.string ByteArray.empty)).toArray T)
  constructor
  · simp only [World.cell?, h]
    simp [List.getD_eq_getElem?_getD, hj]
    rfl
  · simp [go_sem]
end
/-- The next product, half done. -/
def nextL (q x : Nat) (p : List Nat) (j : Nat) : List Nat := (List.range (p.length + 1)).map fun i => if i < j then (mulX q x p).getD i 0 else if i = j ∧ 0 < j then p.getD (j - 1) 0 else 0
theorem nextL_length (q x : Nat) (p : List Nat) (j : Nat) : (nextL q x p j).length = p.length + 1 := by simp [nextL]
theorem nextL_getD {q x : Nat} {p : List Nat} {j i : Nat} (hi : i < p.length + 1) : (nextL q x p j).getD i 0 = if i < j then (mulX q x p).getD i 0 else if i = j ∧ 0 < j then p.getD (j - 1) 0 else 0 := by
  simp only [nextL, List.getD_eq_getElem?_getD, List.getElem?_map, List.getElem?_range hi, Option.map_some, Option.getD_some]
theorem nextL_zero (q x : Nat) (p : List Nat) : nextL q x p 0 = List.replicate (p.length + 1) 0 := by
  refine List.ext_getElem (by simp [nextL]) (fun i h1 h2 => ?_)
  simp [nextL]
theorem mulX_getD {q x : Nat} {p : List Nat} {j : Nat} (hj : j < p.length + 1) : (mulX q x p).getD j 0 = ((0 :: p).getD j 0 % q + (q - (p ++ [0]).getD j 0 * x % q)) % q := by
  unfold mulX
  rw [getD_zip (by simp; omega) (by simp; omega) 0 0 0]
theorem list_ext_getD {a b : List Nat} (hl : a.length = b.length) (h : ∀ i, i < a.length → a.getD i 0 = b.getD i 0) : a = b := by
  refine List.ext_getElem hl (fun i h1 h2 => ?_)
  have := h i h1
  rw [← List.getElem_eq_getD (h := h1), ← List.getElem_eq_getD (h := h2)] at this
  exact this
theorem getD_set_same {L : List Nat} {k v : Nat} (h : k < L.length) : (L.set k v).getD k 0 = v := by simp [List.getD_eq_getElem?_getD, h]
theorem getD_set_other {L : List Nat} {k i v : Nat} (h : k ≠ i) : (L.set k v).getD i 0 = L.getD i 0 := by simp [List.getD_eq_getElem?_getD, h]
theorem nextL_step {q x : Nat} {p : List Nat} {j : Nat} (hj : j < p.length) (hp : ∀ c ∈ p, c < q) :
    ((nextL q x p j).set (j + 1) ((0 + p.getD j 0) % q)).set j (((nextL q x p j).getD j 0 % q + (q - (p.getD j 0 * x % q) % q)) % q) = nextL q x p (j + 1) := by
  have hc : p.getD j 0 < q := by rw [← List.getElem_eq_getD (h := hj)]; exact hp _ (List.getElem_mem hj)
  have hprev : (nextL q x p j).getD j 0 = (0 :: p).getD j 0 := by
    rw [nextL_getD (by omega), if_neg (by omega)]
    cases j with
    | zero => rfl
    | succ k => rw [if_pos (by omega)]; simp [List.getD_eq_getElem?_getD]
  have hpc : (p ++ [0]).getD j 0 = p.getD j 0 := by simp [List.getD_eq_getElem?_getD, List.getElem?_append_left hj]
  refine list_ext_getD (by simp [nextL]) (fun i hi => ?_)
  have hi' : i < p.length + 1 := by simpa [nextL] using hi
  rw [nextL_getD hi']
  by_cases h1 : i = j
  · subst h1
    rw [getD_set_same (by simp [nextL]; omega), if_pos (by omega), mulX_getD hi', hprev, hpc, Nat.mod_mod]
  · rw [getD_set_other (by omega)]
    by_cases h2 : i = j + 1
    · subst h2
      rw [getD_set_same (by simp [nextL]; omega), if_neg (by omega), if_pos (by omega), Nat.zero_add, Nat.mod_eq_of_lt hc]
      rfl
    · rw [getD_set_other (by omega), nextL_getD hi']
      by_cases h3 : i < j
      · rw [if_pos h3, if_pos (by omega)]
      · rw [if_neg h3, if_neg (by omega), if_neg (by omega), if_neg (by omega)]
theorem nextL_end {q x : Nat} {p : List Nat} (hp : ∀ c ∈ p, c < q) (hq : 0 < q) : nextL q x p p.length = mulX q x p := by
  refine list_ext_getD (by simp [nextL, mulX]) (fun i hi => ?_)
  have hi' : i < p.length + 1 := by simpa [nextL] using hi
  rw [nextL_getD hi']
  by_cases h1 : i < p.length
  · rw [if_pos h1]
  · have : i = p.length := by omega
    subst this
    rw [if_neg (by omega), mulX_getD hi']
    have e1 : (p ++ [0]).getD p.length 0 = 0 := by simp [List.getD_eq_getElem?_getD]
    rw [e1, Nat.zero_mul, Nat.zero_mod, Nat.sub_zero, Nat.add_mod_right, Nat.mod_mod]
    cases h : p.length with
    | zero => rw [if_neg (by omega)]; simp
    | succ k =>
      rw [if_pos (by omega)]
      have hk : k < p.length := by omega
      have : p.getD k 0 < q := by rw [← List.getElem_eq_getD (h := hk)]; exact hp _ (List.getElem_mem hk)
      simp only [Nat.add_sub_cancel]
      rw [show (0 :: p).getD (k + 1) 0 = p.getD k 0 by simp [List.getD_eq_getElem?_getD], Nat.mod_eq_of_lt this]
theorem ngetD_out {L : List Nat} {i : Nat} (h : L.length ≤ i) : L.getD i 0 = 0 := by rw [List.getD_eq_getElem?_getD, List.getElem?_eq_none h]; rfl
theorem nextL_lt {q x : Nat} {p : List Nat} (hp : ∀ c ∈ p, c < q) (hq : 0 < q) (j i : Nat) : (nextL q x p j).getD i 0 < q := by
  by_cases hi : i < p.length + 1
  · rw [nextL_getD hi]
    split
    · have hm := mulX_length q x p
      rw [← List.getElem_eq_getD (h := by omega)]
      exact mulX_lt hq p _ (List.getElem_mem _)
    · split
      · by_cases hk : j - 1 < p.length
        · rw [← List.getElem_eq_getD (h := hk)]; exact hp _ (List.getElem_mem hk)
        · rw [ngetD_out (by omega)]; exact hq
      · exact hq
  · rw [ngetD_out (by rw [nextL_length]; omega)]; exact hq
/-- What the closure of through finds in memory. -/
structure TmB (W : World) (lo P Qb Xb Ib Sb Q gp m : Nat) (A : Option Addr) (n c : Nat) (xs : List Nat) (i s : Nat) (p : List Nat) : Prop where
  cp : W.cell? ⟨P, 0, none⟩ = some (.slice (some ⟨gp, 0, none⟩) m m)
  cq : W.cell? ⟨Qb, 0, none⟩ = some (.string (B Q))
  cx : W.cell? ⟨Xb, 0, none⟩ = some (.slice A n c)
  ci : W.cell? ⟨Ib, 0, none⟩ = some (.int .i64 i)
  cs : W.cell? ⟨Sb, 0, none⟩ = some (.string (B s))
  fp : W.frozen? ⟨P, 0, none⟩ = false
  fs : W.frozen? ⟨Sb, 0, none⟩ = false
  row : RowN W gp p
  sl : SLs W lo A (xs.map B)
  hq : Qb < lo
  hx : Xb < lo
  hi : Ib < lo
  hP : lo ≤ P
  hS : lo ≤ Sb
  hPS : P ≠ Sb
  hPg : P ≠ gp
  hSg : Sb ≠ gp
section
variable {W W' : World} {lo P Qb Xb Ib Sb Q gp m : Nat} {A : Option Addr} {n c : Nat} {xs : List Nat} {i s : Nat} {p : List Nat}
theorem TmB.lt (h : TmB W lo P Qb Xb Ib Sb Q gp m A n c xs i s p) : lo ≤ W.heap.size := Nat.le_trans h.hP (Nat.le_of_lt (cell_in h.cp))
theorem TmB.next (h : TmB W lo P Qb Xb Ib Sb Q gp m A n c xs i s p) (hb : Below W.heap.size W W') : TmB W' lo P Qb Xb Ib Sb Q gp m A n c xs i s p :=
  ⟨(hb.cell (cell_in h.cp)).trans h.cp, (hb.cell (cell_in h.cq)).trans h.cq, (hb.cell (cell_in h.cx)).trans h.cx, (hb.cell (cell_in h.ci)).trans h.ci, (hb.cell (cell_in h.cs)).trans h.cs, (hb.frozen (cell_in h.cp)).trans h.fp, (hb.frozen (cell_in h.cs)).trans h.fs, h.row.next hb, h.sl.next h.lt hb,
    h.hq, h.hx, h.hi, h.hP, h.hS, h.hPS, h.hPg, h.hSg⟩
theorem TmB.drew (h : TmB W lo P Qb Xb Ib Sb Q gp m A n c xs i s p) : TmB W.drew lo P Qb Xb Ib Sb Q gp m A n c xs i s p := h.next (Below.refl _ _).drew
theorem ad_block (ad : Addr) (j : Nat) : (ad.add j).block = ad.block := by unfold Addr.add; split <;> rfl
theorem far1 {a b : Addr} (h : a.block ≠ b.block) (v : Value) : (W.setCell a v).cell? b = W.cell? b := World.cell?_setCell_other W a b v (fun e => h (by rw [e]))
theorem SLs.far1 {b k : Nat} {A : Option Addr} {vals : List ByteArray} {v : Value} (hs : SLs W k A vals) (hb : k ≤ b) : SLs (W.setCell ⟨b, 0, none⟩ v) k A vals := by
  intro hne
  obtain ⟨ad, e, hb', hc⟩ := hs hne
  refine ⟨ad, e, hb', fun j hj => ?_⟩
  rw [Go.Proofs.YtapplggboepfaaaGreatDoor.far1 (by rw [ad_block]; show b ≠ ad.block; omega)]
  exact hc j hj
theorem TmB.putP {g' m' : Nat} {p' : List Nat} (h : TmB W lo P Qb Xb Ib Sb Q gp m A n c xs i s p) (hr : RowN W g' p') (h1 : P ≠ g') (h2 : Sb ≠ g') : TmB (W.setCell ⟨P, 0, none⟩ (.slice (some ⟨g', 0, none⟩) m' m')) lo P Qb Xb Ib Sb Q g' m' A n c xs i s p' := by
  obtain ⟨cp, cq, cx, ci, cs, fp, fs, row, sl, hq, hx, hi, hP, hS, hPS, hPg, hSg⟩ := h
  refine ⟨World.cell?_setCell_same _ _ _ cp, ?_, ?_, ?_, ?_, (World.frozen?_setCell _ _ _ _).trans fp, (World.frozen?_setCell _ _ _ _).trans fs, hr.far (by show P ≠ g'; exact h1) _, sl.far1 hP, hq, hx, hi, hP, hS, hPS, h1, h2⟩
  · rw [far1 (by show P ≠ Qb; omega)]; exact cq
  · rw [far1 (by show P ≠ Xb; omega)]; exact cx
  · rw [far1 (by show P ≠ Ib; omega)]; exact ci
  · rw [far1 (by show P ≠ Sb; exact hPS)]; exact cs
theorem TmB.putS {s' : Nat} (h : TmB W lo P Qb Xb Ib Sb Q gp m A n c xs i s p) : TmB (W.setCell ⟨Sb, 0, none⟩ (.string (B s'))) lo P Qb Xb Ib Sb Q gp m A n c xs i s' p := by
  obtain ⟨cp, cq, cx, ci, cs, fp, fs, row, sl, hq, hx, hi, hP, hS, hPS, hPg, hSg⟩ := h
  refine ⟨?_, ?_, ?_, ?_, World.cell?_setCell_same _ _ _ cs, (World.frozen?_setCell _ _ _ _).trans fp, (World.frozen?_setCell _ _ _ _).trans fs, row.far (by show Sb ≠ gp; exact hSg) _, sl.far1 hS, hq, hx, hi, hP, hS, hPS, hPg, hSg⟩
  · rw [far1 (by show Sb ≠ P; exact hPS.symm)]; exact cp
  · rw [far1 (by show Sb ≠ Qb; omega)]; exact cq
  · rw [far1 (by show Sb ≠ Xb; omega)]; exact cx
  · rw [far1 (by show Sb ≠ Ib; omega)]; exact ci
end
theorem through_times (lo P Qb Xb Ib Sb Q gp m : Nat) (A : Option Addr) (n c : Nat) (xs : List Nat) (i s x : Nat) (p : List Nat) (w : World) (hm : p.length = m) (hm1 : m ≤ 1000) (hn : xs.length = n) (hi : i < n) (hn1 : n ≤ 1000)
    (hQ : Q < 18446744073709551616) (h2 : 0 < Q) (hp : ∀ a ∈ p, a < Q) (hxs : ∀ a ∈ xs, a < Q) (hs : s < 18446744073709551616) (hx : x < Q) (h : TmB w lo P Qb Xb Ib Sb Q gp m A n c xs i s p) :
    Calls Tryz.prog 51 #[.string (B x), .pointer (some ⟨P, 0, none⟩), .pointer (some ⟨Qb, 0, none⟩), .pointer (some ⟨Xb, 0, none⟩), .pointer (some ⟨Ib, 0, none⟩), .pointer (some ⟨Sb, 0, none⟩)] w
      fun e w' => e = .returned (.tuple #[]) ∧ TmB w' lo P Qb Xb Ib Sb Q w.heap.size (m + 1) A n c xs i (s * ((xs.getD i 0 % Q + (Q - x % Q)) % Q) % Q) (mulX Q x p) ∧ Below lo w w' := by
  obtain ⟨M1, hM1⟩ : ∃ M1, M1 = m + 1 := ⟨_, rfl⟩
  have wm : wrap64 ((m : Int) + 1) = (M1 : Int) := by rw [hM1]; exact IntWalk.wrap64_in _ (by omega)
  have hmk := make_strs M1 (by omega)
  have HH := Lib.hid h
  have HM1 := Lib.hid hM1
  have HPM := Lib.hid (And.intro hm hm1)
  have HX := Lib.hid (And.intro hn (And.intro hi hn1))
  have HQ := Lib.hid (And.intro hQ (And.intro h2 (And.intro hs hx)))
  have HP := Lib.hid (And.intro hp hxs)
  have cp := h.cp
  have hPlt : P < w.heap.size := cell_in h.cp
  clear h hM1 hm hm1 hn hi hn1 hQ h2 hs hx hp hxs
  go_enter Tryz.func51, Tryz.ntmps51
  go_wp2_with fail
  clear wm hmk cp hPlt
  obtain ⟨N0, hN0⟩ : ∃ N0, w.heap.size = N0 := ⟨_, rfl⟩
  have HN0 := Lib.hid hN0
  rw [hN0]
  clear hN0
  go_loopw [20] (fun v wr => ∃ j : Nat, v = .int .i64 j ∧ j ≤ m ∧ RowN wr N0 (nextL Q x p j) ∧ Below N0 w wr) (fun v _ => m - (intOf v).toNat)
  case atStart => exact ⟨0, rfl, Nat.zero_le _, by rw [nextL_zero, HPM.out.1, ← HM1.out, ← HN0.out]; exact RowN.made w M1 _, (Below.refl _ _).alloc (by rw [HN0.out]; exact Nat.le_refl _) _⟩
  case round =>
    obtain ⟨j, rfl, hj, hrow, hb⟩ := hrel
    have HB := Lib.hid hb
    have HR := Lib.hid hrow
    have HT : Hid (∀ W, Below N0 w W → TmB W lo P Qb Xb Ib Sb Q gp m A n c xs i s p) := Lib.hid (fun W h => HH.out.next (by rw [HN0.out]; exact h))
    have htm := HT.out wr hb
    have HTM := Lib.hid htm
    by_cases hlt : j < m
    · have hjp : j < p.length := by rw [HPM.out.1]; exact hlt
      obtain ⟨d, hd⟩ : ∃ d, d = p.getD j 0 := ⟨_, rfl⟩
      have hdQ : d < Q := by rw [hd, ← List.getElem_eq_getD (h := hjp)]; exact HP.out.1 _ (List.getElem_mem hjp)
      have c0 := (htm.row j hjp).1
      rw [← hd] at c0
      obtain ⟨J1, hJ1⟩ : ∃ J1, J1 = j + 1 := ⟨_, rfl⟩
      have hJM : J1 < M1 := by rw [hJ1, HM1.out]; omega
      have hlen : (nextL Q x p j).length = M1 := by rw [nextL_length, HPM.out.1, HM1.out]
      have r1 := hrow J1 (by rw [hlen]; exact hJM)
      have hz : (nextL Q x p j).getD J1 0 = 0 := by rw [nextL_getD (by rw [HPM.out.1, ← HM1.out]; exact hJM), if_neg (by omega), if_neg (by omega)]
      rw [hz] at r1
      obtain ⟨r1c, r1f⟩ := r1
      have hstep := nextL_step (q := Q) (x := x) (p := p) (j := j) hjp HP.out.1
      rw [← hd, ← hJ1] at hstep
      obtain ⟨L1, hL1⟩ : ∃ L1, L1 = (nextL Q x p j).set J1 ((0 + d) % Q) := ⟨_, rfl⟩
      have hL1j : L1.getD j 0 = (nextL Q x p j).getD j 0 := by rw [hL1, getD_set_other (by omega)]
      have hL1l : L1.length = M1 := by rw [hL1, List.length_set, hlen]
      rw [← hL1, ← hL1j] at hstep
      have hjQ : L1.getD j 0 < Q := by rw [hL1j]; exact nextL_lt HP.out.1 HQ.out.2.1 j j
      have HSTEP := Lib.hid hstep
      have HL1 := Lib.hid (And.intro hL1l hjQ)
      have HL1D := Lib.hid hL1
      have cq := htm.cq
      have KA := Lib.hid (fun w => modular_Add 0 d Q w (by decide) (Nat.lt_trans hdQ HQ.out.1) HQ.out.1 HQ.out.2.1)
      obtain ⟨y1, hy1⟩ : ∃ y1, y1 = (0 + d) % Q := ⟨_, rfl⟩
      rw [← hy1] at KA hL1
      have HL1S := Lib.hid (fun (W : World) (h : RowN W N0 (nextL Q x p j)) => h.set (v := y1) (show J1 < (nextL Q x p j).length by rw [hlen]; exact hJM))
      have HL1S2 : Hid (∀ W : World, RowN W N0 (nextL Q x p j) → RowN (W.setCell ⟨N0, J1, none⟩ (.string (B y1))) N0 L1) := Lib.hid (fun W h => by rw [hL1]; exact HL1S.out W h)
      have HDQ := Lib.hid (And.intro hdQ hjp)
      have HJ1 := Lib.hid (And.intro hJ1 hJM)
      have HLT := Lib.hid hlt
      have j1 : decide (j < m) = true := decide_eq_true hlt
      have i1 : (j : Int) < (m : Int) := by omega
      have i2 : (0 : Int) ≤ (J1 : Int) := by omega
      have i3 : (J1 : Int) < (M1 : Int) := by omega
      have i4 : (0 : Int) ≤ (j : Int) := by omega
      have i5 : (j : Int) < (M1 : Int) := by omega
      have hm1000 := HPM.out.2
      have eJ : (J1 : Int) = (j : Int) + 1 := by omega
      have wj : wrap64 ((j : Int) + 1) = (J1 : Int) := by rw [eJ]; exact IntWalk.wrap64_in ((j : Int) + 1) ⟨by omega, by omega⟩
      have wj' : IntKind.i64.wrap ((j : Int) + 1) = (J1 : Int) := by clear wj; rw [IntKind.wrap_i64]; omega
      clear eJ hm1000
      clear hb hrow htm hjp hd hdQ hJ1 hJM hlen hz hstep hL1 hL1j hL1l hjQ hy1 hj hlt HL1S
      go_upto_region 4 with fail
      go_cut [7, 8, 9, 20] (fun a b e v wx => a = .slice (some ⟨N0, 0, none⟩) M1 M1 ∧ b = .int .i64 j ∧ e = .string (B d) ∧ v = .int .i64 j ∧ RowN wx N0 L1 ∧ Below N0 w wx)
      case first =>
        go_region_with (first
          | (go_at_call 50; (with_reducible refine (KA.out _).mono ?_); rintro e w1 ⟨rfl, hb1⟩
             have HB1 : Hid (Below wr.heap.size wr w1) := by first | exact Lib.hid hb1 | exact Lib.hid (((Below.refl _ wr).drew).trans hb1)
             have HR1 := Lib.hid (HR.out.next HB1.out)
             have HBB1 := Lib.hid (HB.out.trans (HB1.out.mono (by have := HB.out.size; have := HN0.out; omega)))
             have r1f := (HB1.out.frozen (p := ⟨N0, J1, none⟩) (cell_in r1c)).trans r1f
             have r1c := (HB1.out.cell (cell_in r1c)).trans r1c
             have cq := (HB1.out.cell (cell_in cq)).trans cq
             clear hb1))
        all_goals
          go_wp2_with fail
          go_meet
          refine ⟨rfl, rfl, rfl, rfl, ?_, ?_⟩
          · first | exact HL1S2.out _ HR1.out | exact HL1S2.out _ HR1.out.drew | exact (HL1S2.out _ HR1.out).drew
          · first | exact HBB1.out.setCell (Nat.le_refl _) _ | exact (HBB1.out.drew).setCell (Nat.le_refl _) _ | exact (HBB1.out.setCell (Nat.le_refl _) _).drew
      case rest =>
        obtain ⟨rfl, rfl, rfl, rfl, hr2, hb2⟩ := hcut
        have HR2 := Lib.hid hr2
        have HB2 := Lib.hid hb2
        have htm := HT.out wc hb2
        have cq := htm.cq
        have HTM2 := Lib.hid htm
        obtain ⟨y2, hy2⟩ : ∃ y2, y2 = d * x % Q := ⟨_, rfl⟩
        have hy2Q : y2 < Q := by rw [hy2]; exact Nat.mod_lt _ HQ.out.2.1
        have KM := Lib.hid (fun w => modular_Mul d x Q w (Nat.lt_trans HDQ.out.1 HQ.out.1) (Nat.lt_trans HQ.out.2.2.2 HQ.out.1) HQ.out.1 HQ.out.2.1)
        rw [← hy2] at KM
        obtain ⟨u, hu⟩ : ∃ u, u = L1.getD j 0 := ⟨_, rfl⟩
        have huQ : u < Q := by rw [hu]; exact HL1.out.2
        have KS := Lib.hid (fun w => modular_Sub u y2 Q w (Nat.lt_trans huQ HQ.out.1) (Nat.lt_trans hy2Q HQ.out.1) HQ.out.1 HQ.out.2.1)
        obtain ⟨y3, hy3⟩ : ∃ y3, y3 = (u % Q + (Q - y2 % Q)) % Q := ⟨_, rfl⟩
        rw [← hy3] at KS
        have HL2 : Hid (∀ W : World, RowN W N0 L1 → RowN (W.setCell ⟨N0, j, none⟩ (.string (B y3))) N0 (nextL Q x p J1)) := Lib.hid (fun W h => by
          have hst := HSTEP.out
          rw [← hu, ← hy2, ← hy3] at hst
          rw [← hst]
          exact h.set (by rw [HL1.out.1]; have := HJ1.out; omega))
        have HU := Lib.hid (And.intro hu huQ)
        clear hr2 hb2 htm hy2 hy2Q hu huQ hy3
        go_upto_region 6 with (first
          | (go_at_call 49; (with_reducible refine (KM.out _).mono ?_); rintro e w2 ⟨rfl, hb2⟩
             have HB3 := Lib.hid (HB2.out.trans (hb2.mono (by have := HB2.out.size; have := HN0.out; omega)))
             have HR3 := Lib.hid (HR2.out.next hb2)
             have cq := (hb2.cell (cell_in cq)).trans cq
             clear hb2))
        obtain ⟨r3c, r3f⟩ := HR3.out j (by rw [HL1.out.1]; have := HJ1.out; omega)
        rw [← HU.out.1] at r3c
        go_region_with (first
          | (go_at_call 52; (with_reducible refine (KS.out _).mono ?_); rintro e w4 ⟨rfl, hb4⟩
             have HB4 : Hid (Below w2.heap.size w2 w4) := by first | exact Lib.hid hb4 | exact Lib.hid (((Below.refl _ w2).drew).trans hb4)
             have HR4 := Lib.hid (HR3.out.next HB4.out)
             have HBB4 := Lib.hid (HB3.out.trans (HB4.out.mono (by have := HB3.out.size; have := HN0.out; omega)))
             have r3f := (HB4.out.frozen (p := ⟨N0, j, none⟩) (cell_in r3c)).trans r3f
             have r3c := (HB4.out.cell (cell_in r3c)).trans r3c
             have cq := (HB4.out.cell (cell_in cq)).trans cq
             clear hb4))
        all_goals
          go_wp2_with fail
          go_roundw
          case rel =>
            refine ⟨J1, rfl, by have := HJ1.out.1; have := HLT.out; omega, ?_, ?_⟩
            · first | exact HL2.out _ HR4.out | exact HL2.out _ HR4.out.drew | exact (HL2.out _ HR4.out).drew
            · first | exact HBB4.out.setCell (Nat.le_refl _) _ | exact (HBB4.out.drew).setCell (Nat.le_refl _) _ | exact (HBB4.out.setCell (Nat.le_refl _) _).drew
          case measure => have h1 := HJ1.out.1; have h2 := HLT.out; simp only [intOf]; omega
    · obtain rfl : j = m := by omega
      have j1 : decide (j < j) = false := decide_eq_false (Nat.lt_irrefl _)
      rw [show nextL Q x p j = mulX Q x p by rw [← HPM.out.1]; exact nextL_end HP.out.1 HQ.out.2.1] at hrow
      have HR := Lib.hid hrow
      have hN : P < N0 ∧ Sb < N0 := by rw [← HN0.out]; exact ⟨cell_in HH.out.cp, cell_in HH.out.cs⟩
      have hput := htm.putP (m' := M1) hrow (Nat.ne_of_lt hN.1) (Nat.ne_of_lt hN.2)
      have HPUT := Lib.hid hput
      have cp := htm.cp
      have fp := htm.fp
      have hne1 : ¬ P = Qb := by have := htm.hq; have := htm.hP; omega
      have hne2 : ¬ P = Xb := by have := htm.hx; have := htm.hP; omega
      have hne3 : ¬ P = Ib := by have := htm.hi; have := htm.hP; omega
      have hix : i < (xs.map B).length := by rw [List.length_map, HX.out.1]; exact HX.out.2.1
      obtain ⟨ad, hA, hcx⟩ := hput.sl.at_ hix
      subst hA
      rw [map_B_getD xs (by rw [HX.out.1]; exact HX.out.2.1)] at hcx
      obtain ⟨xi, hxi⟩ : ∃ xi, xi = xs.getD i 0 := ⟨_, rfl⟩
      have hxiQ : xi < Q := by rw [hxi, ← List.getElem_eq_getD (h := by rw [HX.out.1]; exact HX.out.2.1)]; exact HP.out.2 _ (List.getElem_mem _)
      rw [← hxi] at hcx
      have KS := Lib.hid (fun w => modular_Sub xi x Q w (Nat.lt_trans hxiQ HQ.out.1) (Nat.lt_trans HQ.out.2.2.2 HQ.out.1) HQ.out.1 HQ.out.2.1)
      obtain ⟨e1, he1⟩ : ∃ e1, e1 = (xi % Q + (Q - x % Q)) % Q := ⟨_, rfl⟩
      have he1Q : e1 < Q := by rw [he1]; exact Nat.mod_lt _ HQ.out.2.1
      have KM := Lib.hid (fun w => modular_Mul s e1 Q w HQ.out.2.2.1 (Nat.lt_trans he1Q HQ.out.1) HQ.out.1 HQ.out.2.1)
      rw [← he1] at KS
      have HE1 := Lib.hid (show s * ((xs.getD i 0 % Q + (Q - x % Q)) % Q) % Q = s * e1 % Q by rw [← hxi, ← he1])
      obtain ⟨s', hs'⟩ : ∃ s', s' = s * e1 % Q := ⟨_, rfl⟩
      rw [← hs'] at KM
      have HS' := Lib.hid hs'
      have HLO := Lib.hid (And.intro htm.hP (And.intro htm.hS (show lo ≤ N0 by have := htm.hP; omega)))
      have HBL := Lib.hid (HB.out.mono HLO.out.2.2)
      have HHM := Lib.hid (And.intro cp fp)
      have HCX := Lib.hid hcx
      clear hrow htm hput hb hj hlt hxi hxiQ he1 he1Q hs' hix HT HR HTM hN
      go_upto_region 9 with fail
      obtain ⟨W1, hW1⟩ : ∃ W1, wr.setCell ⟨P, 0, none⟩ (.slice (some ⟨N0, 0, none⟩) M1 M1) = W1 := ⟨_, rfl⟩
      have HB1 : Hid (Below lo w W1) := Lib.hid (by rw [← hW1]; exact HBL.out.setCell (by exact HLO.out.1) _)
      have hput := HPUT.out
      rw [hW1] at hput hcx
      rw [hW1]
      have HPU := Lib.hid hput
      obtain ⟨_, cq, cx, ci, cs, _, fs, _, _, _, _, _, _, _, _, _, _⟩ := hput
      have i1 : (i : Int) < (n : Int) := by have := HX.out.2.1; omega
      have i2 : (0 : Int) ≤ (i : Int) := by omega
      clear hW1 cp fp hne1 hne2 hne3 j1 HPUT
      go_cut [12] (fun a wx => a = .string (B e1) ∧ TmB wx lo P Qb Xb Ib Sb Q N0 M1 (some ad) n c xs i s (mulX Q x p) ∧ Below lo w wx)
      case first =>
        go_region_held3 (fun w' => w'.cell? ⟨Xb, 0, none⟩ = some (.slice (some ad) n c) ∧ w'.cell? ⟨Ib, 0, none⟩ = some (.int .i64 i) ∧ w'.cell? (ad.add i) = some (.string (B xi)) ∧ w'.cell? ⟨Qb, 0, none⟩ = some (.string (B Q))) (first | go_keep) (first
          | (go_at_call 52; (with_reducible refine (KS.out _).mono ?_); rintro e w4 ⟨rfl, hb4⟩
             have HB4 : Hid (Below W1.heap.size W1 w4) := by first | exact Lib.hid hb4 | exact Lib.hid (((Below.refl _ W1).drew).trans hb4)
             have HP4 := Lib.hid (HPU.out.next HB4.out)
             have HBB4 := Lib.hid (HB1.out.trans (HB4.out.mono HPU.out.lt))
             have hcx := (HB4.out.cell (p := ad.add i) (cell_in hcx)).trans hcx
             obtain ⟨_, cq, cx, ci, cs, _, fs, _, _, _, _, _, _, _, _, _, _⟩ := HP4.out
             clear hb4))
        all_goals
          go_wp2_with fail
          go_meet
          first | exact ⟨rfl, HP4.out, HBB4.out⟩ | exact ⟨rfl, HP4.out.drew, HBB4.out.drew⟩
      case rest =>
        obtain ⟨rfl, ht5, hb5⟩ := hcut
        have HT5 := Lib.hid ht5
        have HB5 := Lib.hid hb5
        obtain ⟨_, cq, cx, ci, cs, _, fs, _, _, _, _, _, _, _, _, _, _⟩ := ht5
        clear hb5
        go_wp2_with (first
          | (go_at_call 49; (with_reducible refine (KM.out _).mono ?_); rintro e w6 ⟨rfl, hb6⟩
             have HT6 := Lib.hid (HT5.out.next hb6)
             have HB6 := Lib.hid (HB5.out.trans (hb6.mono HT5.out.lt))
             obtain ⟨_, cq, cx, ci, cs, _, fs, _, _, _, _, _, _, _, _, _, _⟩ := HT6.out
             clear hb6))
        refine bodyPost_end (v := .tuple #[]) (by simp [results, Tryz.results51, go_sem]) rfl ⟨rfl, ?_, HB6.out.setCell (by exact HLO.out.2.1) _⟩
        rw [HE1.out, ← HS'.out, HN0.out, ← HM1.out]
        exact HT6.out.putS

end Go.Proofs.YtapplggboepfaaaGreatDoor
