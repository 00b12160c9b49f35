/- Encoding: valid and depth. Encoding: depth. -/
import Derived.Test.YtjhlddlocpkhkaaGreatWhWe
namespace Go.Proofs.YtjhlddlocpkhkaaGreat
open Go.RowKit
set_option maxRecDepth 100000
set_option linter.unusedVariables false
set_option maxHeartbeats 4000000
theorem isEmpty_size (t : ByteArray) : t.toList.isEmpty = decide (t.size = 0) := by
  rw [ByteArray.toList_eq]
  have : t.size = t.data.toList.length := by simp
  rw [this]
  cases t.data.toList <;> simp
/-- The box of an item that came in. -/
structure VaAt (w : World) (S : Nat → Prop) (k : Int) (n t : ByteArray) (A : Option Addr) (l : Its) (c : Nat) (wr : World) : Prop where
  box : wr.heap[w.heap.size]? = some (.cells #[.int .i64 k, .string n, .string t, .slice A l.len c] 63 (0, 0))
  src : SlI wr S A l
  bel : Below w.heap.size w wr
  size : w.heap.size < wr.heap.size
section
variable {w wr w' : World} {S : Nat → Prop} {k : Int} {n t : ByteArray} {A : Option Addr} {l : Its} {c : Nat}
theorem VaAt.next (h : VaAt w S k n t A l c wr) (hS : ∀ g, S g → g < w.heap.size) (hb : Below wr.heap.size wr w') : VaAt w S k n t A l c w' :=
  ⟨(hb.block _ h.size).trans h.box, h.src.below hb (fun g hg => Nat.lt_of_lt_of_le (hS g hg) h.bel.size), below2 h.bel hb, Nat.lt_of_lt_of_le h.size hb.size⟩
theorem VaAt.alloc (h : VaAt w S k n t A l c wr) (hS : ∀ g, S g → g < w.heap.size) (o : Obj) : VaAt w S k n t A l c (wr.alloc o) := h.next hS ((Below.refl _ _).alloc (Nat.le_refl _) _)
theorem VaAt.start (hs : SlI w S A l) (hS : ∀ g, S g → g < w.heap.size) : VaAt w S k n t A l c (w.alloc (.cells #[.int .i64 k, .string n, .string t, .slice A l.len c] 63)) :=
  ⟨heap_alloc_new w _, hs.below ((Below.refl w.heap.size w).alloc (Nat.le_refl _) _) hS, (Below.refl _ _).alloc (Nat.le_refl _) _, by simp⟩
theorem VaAt.all (h : VaAt w S k n t A l c wr) : wr.cell? ⟨w.heap.size, 0, none⟩ = some (.int .i64 k) ∧ wr.cell? ⟨w.heap.size, 1, none⟩ = some (.string n) ∧ wr.cell? ⟨w.heap.size, 2, none⟩ = some (.string t) ∧ wr.cell? ⟨w.heap.size, 3, none⟩ = some (.slice A l.len c) :=
  ⟨cell_of_row wr _ 0 _ _ _ h.box, cell_of_row wr _ 1 _ _ _ h.box, cell_of_row wr _ 2 _ _ _ h.box, cell_of_row wr _ 3 _ _ _ h.box⟩
end
theorem okI_next {l : Its} {i : Nat} {y : Its.One} (ht : l.take (i + 1) = (l.take i).app (Its.one y)) (h1 : okI (l.take i) = true) (h2 : okOne y = true) : okI (l.take (i + 1)) = true := by
  rw [ht]
  generalize l.take i = a at h1
  induction a with
  | nil => exact h2
  | cons k n t l r _ ih =>
    simp only [Its.app, okI, Bool.and_eq_true] at h1 ⊢
    exact ⟨h1.1, ih h1.2⟩
theorem okOne_0 (n t : ByteArray) (l : Its) : okOne (0, n, t, l) = (valid n && (t.toList.isEmpty && decide (l.len = 0))) := by unfold okOne Its.one; simp [okI, isEmpty_size]
theorem okOne_1 (n t : ByteArray) (l : Its) : okOne (1, n, t, l) = (n.toList.isEmpty && decide (l.len = 0)) := by unfold okOne Its.one; simp [okI, isEmpty_size]
theorem okOne_2 (n t : ByteArray) (l : Its) : okOne (2, n, t, l) = (okI l && (n.toList.isEmpty && t.toList.isEmpty)) := by unfold okOne Its.one; simp [okI, isEmpty_size]
theorem okOne_x (k : Int) (n t : ByteArray) (l : Its) (h0 : k ≠ 0) (h1 : k ≠ 1) (h2 : k ≠ 2) : okOne (k, n, t, l) = false := by unfold okOne Its.one; simp [okI, h0, h1, h2]
theorem enc_valid (N : Nat) : ∀ (y : Its.One) (A : Option Addr) (c : Nat) (S : Nat → Prop) (w : World), y.2.2.2.size ≤ N → N ≤ 100000 → SlI w S A y.2.2.2 → (∀ g, S g → g < w.heap.size) → Calls Tryz.prog 124 #[valI y A c] w fun e w' => e = .returned (.bool (okOne y)) ∧ Below w.heap.size w w' := by
  induction N using Nat.strongRecOn with
  | ind N ih =>
  intro y A c S w hsz hN hsl hS
  obtain ⟨k, n, t, l⟩ := y
  have HIH := Lib.hid ih
  have HS := Lib.hid hS
  have HSZ := Lib.hid hsz
  have hl6 : l.len ≤ 100000 := Nat.le_trans (Its.len_size l) (Nat.le_trans hsz hN)
  have HV := Lib.hid (VaAt.start (k := k) (n := n) (t := t) (A := A) (l := l) (c := c) hsl hS)
  clear ih hsl hS hsz
  unfold valI
  dsimp only
  by_cases k0 : k = 0
  · subst k0
    rw [okOne_0]
    have HNV := Lib.hid (fun W => natural_Valid n W)
    have HNV2 := HNV.out
    by_cases hl : l.len = 0
    · have kl : ((l.len : Int) == 0) = true := by rw [hl]; rfl
      rw [decide_eq_true hl]
      clear HNV
      cases hv : valid n <;> cases ht : t.toList.isEmpty
      all_goals
        rw [hv] at HNV2
        have HN3 := Lib.hid HNV2
        clear HNV2 hv
        go_enter Tryz.func124, Tryz.ntmps124
        go_wp2_with (go_at_call 90; (with_reducible refine (HN3.out _).mono ?_); rintro e w' ⟨rfl, rfl⟩)
        go_ret
        exact ⟨by simp, (Below.refl _ _).alloc (Nat.le_refl _) _⟩
    · have kl : ((l.len : Int) == 0) = false := by rw [beq_eq_false_iff_ne]; omega
      rw [decide_eq_false hl]
      clear HNV
      cases hv : valid n <;> cases ht : t.toList.isEmpty
      all_goals
        rw [hv] at HNV2
        have HN3 := Lib.hid HNV2
        clear HNV2 hv
        go_enter Tryz.func124, Tryz.ntmps124
        go_wp2_with (go_at_call 90; (with_reducible refine (HN3.out _).mono ?_); rintro e w' ⟨rfl, rfl⟩)
        go_ret
        exact ⟨by simp, (Below.refl _ _).alloc (Nat.le_refl _) _⟩
  by_cases k1 : k = 1
  · subst k1
    rw [okOne_1]
    by_cases hl : l.len = 0
    · have kl : ((l.len : Int) == 0) = true := by rw [hl]; rfl
      rw [decide_eq_true hl]
      cases hn : n.toList.isEmpty
      all_goals
        go_enter Tryz.func124, Tryz.ntmps124
        go_wp2_with fail
        go_ret
        exact ⟨by simp, (Below.refl _ _).alloc (Nat.le_refl _) _⟩
    · have kl : ((l.len : Int) == 0) = false := by rw [beq_eq_false_iff_ne]; omega
      rw [decide_eq_false hl]
      cases hn : n.toList.isEmpty
      all_goals
        go_enter Tryz.func124, Tryz.ntmps124
        go_wp2_with fail
        go_ret
        exact ⟨by simp, (Below.refl _ _).alloc (Nat.le_refl _) _⟩
  by_cases k2 : k = 2
  · subst k2
    clear k0 k1
    rw [okOne_2]
    go_enter Tryz.func124, Tryz.ntmps124
    go_wp2_with fail
    go_loopw [39] (fun v wr => ∃ i : Nat, v = .int .i64 i ∧ i ≤ l.len ∧ okI (l.take i) = true ∧ VaAt w S 2 n t A l c wr) (fun v _ => l.len - (intOf v).toNat)
    case atStart => exact ⟨0, rfl, Nat.zero_le _, by rw [Its.take_zero]; rfl, HV.out⟩
    case round =>
      obtain ⟨i, rfl, hi, hok, hva⟩ := hrel
      have HOK := Lib.hid hok
      have HVA := Lib.hid hva
      obtain ⟨x0, x1, x2, x3⟩ := hva.all
      clear hok hva
      by_cases hlt : i < l.len
      · obtain ⟨y, hy⟩ := Its.get_lt hlt
        obtain ⟨g, off, A', c', rfl, hsg, y0, y1, y2, y3, hsl'⟩ := HVA.out.src.at_ hy
        have hys := Its.get_size hy
        have HTK := Lib.hid (Its.take_succ hy)
        have HNOT := Lib.hid (fun h => okI_not hy h)
        have HLT := Lib.hid hlt
        have hil : (i : Int) < (l.len : Int) := by omega
        obtain ⟨yk, yn, yt, yl⟩ := y
        dsimp only at y0 y1 y2 y3 hys hsl'
        have hbw : Below wr.heap.size wr (wr.alloc (.cells #[.int .i64 yk, .string yn, .string yt, .slice A' yl.len c'] 63)) := (Below.refl _ _).alloc (Nat.le_refl _) _
        have hic := HIH.out yl.size (by have := HSZ.out; omega) (yk, yn, yt, yl) A' c' S _ (Nat.le_refl _) (by have := HSZ.out; omega) (hsl'.below hbw (fun g hg => Nat.lt_of_lt_of_le (HS.out g hg) HVA.out.bel.size)) (fun g hg => Nat.lt_of_lt_of_le (HS.out g hg) (Nat.le_trans HVA.out.bel.size hbw.size))
        unfold valI at hic
        dsimp only at hic
        obtain ⟨b, hb⟩ : ∃ b, okOne (yk, yn, yt, yl) = b := ⟨_, rfl⟩
        rw [hb] at hic HNOT
        have HIC := Lib.hid hic
        have HB := Lib.hid hb
        clear hsg hsl' hys hy hbw hlt hic hb
        cases b
        · have HF : Hid (okI l = false) := Lib.hid (HNOT.out rfl)
          go_wp2_with (go_at_call 124; (with_reducible refine HIC.out.mono ?_); rintro e w5 ⟨rfl, hb5⟩; have H5 := Lib.hid ((HVA.out.alloc HS.out _).next HS.out hb5); clear hb5)
          go_ret
          exact ⟨by rw [HF.out]; rfl, H5.out.bel⟩
        · go_wp2_with (go_at_call 124; (with_reducible refine HIC.out.mono ?_); rintro e w5 ⟨rfl, hb5⟩; have H5 := Lib.hid ((HVA.out.alloc HS.out _).next HS.out hb5); clear hb5)
          go_roundw
          case rel => exact ⟨i + 1, rfl, HLT.out, okI_next HTK.out HOK.out HB.out, H5.out⟩
          case measure => have := HLT.out; simp only [intOf]; omega
      · obtain rfl : i = l.len := by omega
        have HF : Hid (okI l = true) := Lib.hid (by have := HOK.out; rwa [Its.take_all l (Nat.le_refl _)] at this)
        cases hn : n.toList.isEmpty <;> cases ht : t.toList.isEmpty
        all_goals
          go_wp2_with fail
          go_ret
          exact ⟨by simp [HF.out, hn, ht], HVA.out.bel⟩
  · have q0 : (k == 0) = false := by rw [beq_eq_false_iff_ne]; exact k0
    have q1 : (k == 1) = false := by rw [beq_eq_false_iff_ne]; exact k1
    have q2 : (k == 2) = false := by rw [beq_eq_false_iff_ne]; exact k2
    rw [okOne_x k n t l k0 k1 k2]
    clear k0 k1 k2
    go_enter Tryz.func124, Tryz.ntmps124
    go_wp2_with fail
    go_ret
    exact ⟨rfl, HV.out.bel⟩
theorem deepI_size (l : Its) : deepI l ≤ l.size := by
  induction l with
  | nil => exact Nat.le_refl _
  | cons k n t l r ihl ihr => simp only [deepI, Its.size]; split <;> omega
theorem enc_depth (N : Nat) : ∀ (y : Its.One) (A : Option Addr) (c : Nat) (S : Nat → Prop) (w : World), y.2.2.2.size ≤ N → N ≤ 100000 → SlI w S A y.2.2.2 → (∀ g, S g → g < w.heap.size) → Calls Tryz.prog 136 #[valI y A c] w fun e w' => e = .returned (.int .i64 (deepOne y : Nat)) ∧ Below w.heap.size w w' := by
  induction N using Nat.strongRecOn with
  | ind N ih =>
  intro y A c S w hsz hN hsl hS
  obtain ⟨k, n, t, l⟩ := y
  have HIH := Lib.hid ih
  have HS := Lib.hid hS
  have HSZ := Lib.hid hsz
  have hl6 : l.len ≤ 100000 := Nat.le_trans (Its.len_size l) (Nat.le_trans hsz hN)
  have HDS := Lib.hid (show deepI l ≤ 100000 from Nat.le_trans (deepI_size l) (Nat.le_trans hsz hN))
  have HV := Lib.hid (VaAt.start (k := k) (n := n) (t := t) (A := A) (l := l) (c := c) hsl hS)
  clear ih hsl hS hsz
  unfold valI deepOne
  dsimp only
  by_cases k2 : k = 2
  · subst k2
    rw [if_pos rfl]
    go_enter Tryz.func136, Tryz.ntmps136
    go_wp2_with fail
    go_loopw [3, 12] (fun v3 v wr => ∃ i d : Nat, v3 = .int .i64 d ∧ v = .int .i64 i ∧ i ≤ l.len ∧ d = deepI (l.take i) ∧ d ≤ 100000 ∧ VaAt w S 2 n t A l c wr) (fun _ v _ => l.len - (intOf v).toNat)
    case atStart => exact ⟨0, 0, rfl, rfl, Nat.zero_le _, by rw [Its.take_zero]; rfl, Nat.zero_le _, HV.out⟩
    case round =>
      obtain ⟨i, d, rfl, rfl, hi, hd, hd6, hva⟩ := hrel
      have HD := Lib.hid hd
      have HVA := Lib.hid hva
      obtain ⟨x0, x1, x2, x3⟩ := hva.all
      clear hd hva
      by_cases hlt : i < l.len
      · obtain ⟨y, hy⟩ := Its.get_lt hlt
        obtain ⟨g, off, A', c', rfl, hsg, y0, y1, y2, y3, hsl'⟩ := HVA.out.src.at_ hy
        have hys := Its.get_size hy
        have HTK := Lib.hid (Its.take_succ hy)
        have HLT := Lib.hid hlt
        have hil : (i : Int) < (l.len : Int) := by omega
        obtain ⟨yk, yn, yt, yl⟩ := y
        dsimp only at y0 y1 y2 y3 hys hsl'
        have hbw : Below wr.heap.size wr (wr.alloc (.cells #[.int .i64 yk, .string yn, .string yt, .slice A' yl.len c'] 63)) := (Below.refl _ _).alloc (Nat.le_refl _) _
        have hic := HIH.out yl.size (by have := HSZ.out; omega) (yk, yn, yt, yl) A' c' S _ (Nat.le_refl _) (by have := HSZ.out; omega) (hsl'.below hbw (fun g hg => Nat.lt_of_lt_of_le (HS.out g hg) HVA.out.bel.size)) (fun g hg => Nat.lt_of_lt_of_le (HS.out g hg) (Nat.le_trans HVA.out.bel.size hbw.size))
        unfold valI at hic
        dsimp only at hic
        obtain ⟨b, hb⟩ : ∃ b, deepOne (yk, yn, yt, yl) = b := ⟨_, rfl⟩
        rw [hb] at hic
        obtain ⟨M, hM⟩ : ∃ M, max d b = M := ⟨_, rfl⟩
        have hmx : max (d : Int) (b : Int) = (M : Int) := by rw [← hM]; omega
        have HNX : Hid (M = deepI (l.take (i + 1))) := Lib.hid (by rw [HTK.out, deepI_app, deepI_one, ← HD.out, hb, hM])
        have HM6 : Hid (M ≤ 100000) := Lib.hid (by
          have h1 : deepOne (yk, yn, yt, yl) ≤ yl.size + 1 := by unfold deepOne; have := deepI_size yl; split <;> (first | omega | (dsimp only; omega))
          have h2 := HSZ.out
          rw [hb] at h1
          omega)
        have HIC := Lib.hid hic
        clear hsg hsl' hys hy hbw hlt hic hb hM
        go_wp2_with (go_at_call 136; (with_reducible refine HIC.out.mono ?_); rintro e w5 ⟨rfl, hb5⟩; have H5 := Lib.hid ((HVA.out.alloc HS.out _).next HS.out hb5); clear hb5)
        go_roundw
        case rel => exact ⟨i + 1, M, rfl, rfl, HLT.out, HNX.out, HM6.out, H5.out⟩
        case measure => have := HLT.out; simp only [intOf]; omega
      · obtain rfl : i = l.len := by omega
        have HF : Hid (deepI l = d) := Lib.hid (by rw [HD.out, Its.take_all l (Nat.le_refl _)])
        go_wp2_with fail
        go_ret
        exact ⟨by rw [HF.out]; rfl, HVA.out.bel⟩
  · have q2 : (k != 2) = true := by rw [bne_iff_ne]; exact k2
    rw [if_neg k2]
    clear k2
    go_enter Tryz.func136, Tryz.ntmps136
    go_wp2_with fail
    go_ret
    exact ⟨rfl, HV.out.bel⟩
end Go.Proofs.YtjhlddlocpkhkaaGreat
