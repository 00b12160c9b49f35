/- Encoding: write. -/
import Derived.Test.YtjhlddlocpkhkaaGreatWhJ06
namespace Go.Proofs.YtjhlddlocpkhkaaGreat
open Go.RowKit
set_option maxRecDepth 100000
set_option linter.unusedVariables false
set_option maxHeartbeats 4000000
theorem isB_kept {w w' : World} {T E : TypeId} {B b : Nat} {bs : List Value} (h : Lib.IsBuilder T E B b bs w) (hb : Below w.heap.size w w') : Lib.IsBuilder T E B b bs w' := by
  have go : ∀ p, Lib.BuilderAt T E B b p bs w → Lib.BuilderAt T E B b p bs w' := by
    rintro p ⟨hB, v, hbk, hown, hne⟩
    have hlt := (Array.getElem?_eq_some_iff.1 hbk).1
    refine ⟨hB, v, (hb.block b hlt).trans hbk, ⟨hown.1, ?_⟩, hne⟩
    rcases hown.2 with hn | ⟨g, cap, cur, rfl, h1, hg, rest⟩
    · exact .inl hn
    · exact .inr ⟨g, cap, cur, rfl, h1, (hb.block g (Array.getElem?_eq_some_iff.1 hg).1).trans hg, rest⟩
  rcases h with h | h
  · exact .inl (go _ h)
  · exact .inr (go _ h)
/-- What write holds: the item's box, and the builder with its bytes. -/
structure WrAt (w : World) (S : Nat → Prop) (k : Int) (n t : ByteArray) (A : Option Addr) (l : Its) (c : Nat) (L : List UInt8) (wr : World) : Prop where
  va : VaAt w S k n t A l c wr
  bld : Lib.IsBuilder 187 5 (w.heap.size + 1) (w.heap.size + 1) (Lib.byteCells L) wr
section
variable {w wr w' : World} {S : Nat → Prop} {k : Int} {n t : ByteArray} {A : Option Addr} {l : Its} {c : Nat} {L : List UInt8}
theorem WrAt.next (h : WrAt w S k n t A l c L wr) (hS : ∀ g, S g → g < w.heap.size) (hb : Below wr.heap.size wr w') : WrAt w S k n t A l c L w' := ⟨h.va.next hS hb, isB_kept h.bld hb⟩
theorem WrAt.alloc (h : WrAt w S k n t A l c L wr) (hS : ∀ g, S g → g < w.heap.size) (o : Obj) : WrAt w S k n t A l c L (wr.alloc o) := h.next hS ((Below.refl _ _).alloc (Nat.le_refl _) _)
theorem WrAt.drew (h : WrAt w S k n t A l c L wr) (hS : ∀ g, S g → g < w.heap.size) : WrAt w S k n t A l c L wr.drew := h.next hS (Below.refl _ _).drew
theorem VaAt.next1 (h : VaAt w S k n t A l c wr) (hS : ∀ g, S g → g < w.heap.size) (hb : Below (w.heap.size + 1) wr w') : VaAt w S k n t A l c w' :=
  ⟨(hb.block _ (Nat.lt_succ_self _)).trans h.box, h.src.below hb (fun g hg => Nat.lt_succ_of_lt (hS g hg)), h.bel.trans (hb.mono (Nat.le_succ _)), Nat.lt_of_lt_of_le h.size hb.size⟩
theorem WrAt.start (hs : SlI w S A l) (hS : ∀ g, S g → g < w.heap.size) :
    WrAt w S k n t A l c [] ((w.alloc (.cells #[.int .i64 k, .string n, .string t, .slice A l.len c] 63)).alloc (.cells #[.pointer none, .slice none 0 0] 187)) := by
  refine ⟨(VaAt.start hs hS).alloc hS _, ?_⟩
  have := Lib.fresh_isBuilder 187 5 (w.alloc (.cells #[.int .i64 k, .string n, .string t, .slice A l.len c] 63))
  simp only [World.size_alloc] at this
  exact this
theorem WrAt.lo (h : WrAt w S k n t A l c L wr) : w.heap.size + 1 ≤ wr.heap.size := h.va.size
/-- WriteString, as write calls it. -/
theorem WrAt.put (h : WrAt w S k n t A l c L wr) (hS : ∀ g, S g → g < w.heap.size) (s : ByteArray) (hl : L.length + s.size ≤ 140737488355328) :
    Calls Tryz.prog 142 #[.pointer (some ⟨w.heap.size + 1, 0, none⟩), .string s] wr fun e w' => e = .returned (.tuple #[.int .i64 s.size, .nilIface]) ∧ WrAt w S k n t A l c (L ++ s.data.toList) w' := by
  refine (builder_WriteString (w.heap.size + 1) (w.heap.size + 1) (Lib.byteCells L) s wr h.bld (by rw [Lib.byteCells_length]; exact hl) h.lo).mono ?_
  rintro e w' ⟨he, hb, hbe⟩
  refine ⟨he, h.va.next1 hS hbe, ?_⟩
  rw [Lib.byteCells_append, ← Lib.strCells_eq]
  exact .inr hb
end
theorem encI_take {l : Its} {i : Nat} {y : Its.One} (h : l.take (i + 1) = (l.take i).app (Its.one y)) : encI (l.take (i + 1)) = encI (l.take i) ++ encOne y := by rw [h, encI_app, encI_one]
theorem encI_get {l : Its} {i : Nat} {y : Its.One} (h : l.get? i = some y) : (encI (l.take i)).length + (encOne y).length ≤ (encI l).length := by
  induction l generalizing i with
  | nil => simp [Its.get?] at h
  | cons k n t l r _ ih =>
    have he : encI (.cons k n t l r) = encOne (k, n, t, l) ++ encI r := rfl
    cases i with
    | zero =>
      simp only [Its.get?, Option.some.injEq] at h
      subst h
      rw [he, Its.take_zero, List.length_append]
      show 0 + _ ≤ _
      omega
    | succ i =>
      have := ih h
      have e2 : encI ((Its.cons k n t l r).take (i + 1)) = encOne (k, n, t, l) ++ encI (r.take i) := rfl
      rw [he, e2, List.length_append, List.length_append]
      omega
theorem okOne_kind {k : Int} {n t : ByteArray} {l : Its} (h : okOne (k, n, t, l) = true) : k = 0 ∨ k = 1 ∨ k = 2 := by
  by_cases h0 : k = 0
  · exact .inl h0
  · by_cases h1 : k = 1
    · exact .inr (.inl h1)
    · by_cases h2 : k = 2
      · exact .inr (.inr h2)
      · rw [okOne_x k n t l h0 h1 h2] at h; cases h
theorem okOne_list {k : Int} {n t : ByteArray} {l : Its} (h : okOne (k, n, t, l) = true) {i : Nat} {y : Its.One} (hy : l.get? i = some y) : okOne y = true := by
  rcases okOne_kind h with rfl | rfl | rfl
  · rw [okOne_0] at h
    simp only [Bool.and_eq_true, decide_eq_true_eq] at h
    have := Its.lt_get hy
    omega
  · rw [okOne_1] at h
    simp only [Bool.and_eq_true, decide_eq_true_eq] at h
    have := Its.lt_get hy
    omega
  · rw [okOne_2] at h
    simp only [Bool.and_eq_true] at h
    exact okI_get h.1 hy
theorem lenF_short (f : Nat) : ∀ n, (lenF f n).length ≤ f + 1 := by
  induction f with
  | zero => intro n; simp [lenF]
  | succ f ih =>
    intro n
    unfold lenF
    split
    · simp
    · simp only [List.length_cons]; have := ih (n / 128); omega
theorem enc_write (N : Nat) : ∀ (y : Its.One) (A : Option Addr) (c : Nat) (S : Nat → Prop) (w : World), y.2.2.2.size ≤ N → N ≤ 100000 → okOne y = true → (encOne y).length ≤ 200000000 → SlI w S A y.2.2.2 → (∀ g, S g → g < w.heap.size) →
    Calls Tryz.prog 137 #[valI y A c] w fun e w' => e = .returned (.string ⟨(encOne y).toArray⟩) ∧ Below w.heap.size w w' := by
  induction N using Nat.strongRecOn with
  | ind N ih =>
  intro y A c S w hsz hN hok hel hsl hS
  obtain ⟨k, n, t, l⟩ := y
  have HIH := Lib.hid ih
  have HS := Lib.hid hS
  have HSZ := Lib.hid hsz
  have hl6 : l.len ≤ 100000 := Nat.le_trans (Its.len_size l) (Nat.le_trans hsz hN)
  have hbl : (bodyOne (k, n, t, l)).length ≤ 200000000 := by unfold encOne at hel; simp only [List.length_cons, List.length_append] at hel; omega
  have hn8 : n.size + (t.size + (encI l).length) ≤ 200000000 := by
    have h1 : (bodyOne (k, n, t, l)).length = n.size + (t.size + (encI l).length) := by unfold bodyOne; simp
    omega
  have HN8 := Lib.hid hn8
  have HEL := Lib.hid hel
  have HOK := Lib.hid hok
  have HV := Lib.hid (WrAt.start (k := k) (n := n) (t := t) (A := A) (l := l) (c := c) hsl hS)
  clear ih hsl hS hsz hok hel hbl hn8
  unfold valI
  dsimp only
  go_enter Tryz.func137, Tryz.ntmps137
  go_wp2_with (first
    | (go_at_call 142; (with_reducible refine (HV.out.put HS.out n (by have := HN8.out; simp; omega)).mono ?_); rintro e w1 ⟨rfl, h1⟩; obtain ⟨x0, x1, x2, x3⟩ := h1.va.all; have H1 := Lib.hid h1; clear h1)
    | (go_at_call 142; (with_reducible refine (H1.out.put HS.out t (by have := HN8.out; simp; omega)).mono ?_); rintro e w2 ⟨rfl, h2⟩; obtain ⟨z0, z1, z2, z3⟩ := h2.va.all; have H2 := Lib.hid h2; clear h2))
  go_loopw [15] (fun v wr => ∃ i : Nat, v = .int .i64 i ∧ i ≤ l.len ∧ WrAt w S k n t A l c (([] ++ n.data.toList) ++ t.data.toList ++ encI (l.take i)) wr) (fun v _ => l.len - (intOf v).toNat)
  case atStart => exact ⟨0, rfl, Nat.zero_le _, by rw [Its.take_zero]; show WrAt _ _ _ _ _ _ _ _ (_ ++ []) _; rw [List.append_nil]; exact H2.out⟩
  case round =>
    obtain ⟨i, rfl, hi, hwr⟩ := hrel
    have HWR := Lib.hid hwr
    obtain ⟨x0, x1, x2, x3⟩ := hwr.va.all
    clear hwr
    by_cases hlt : i < l.len
    · obtain ⟨y, hy⟩ := Its.get_lt hlt
      obtain ⟨g, off, A', c', rfl, hsg, y0, y1, y2, y3, hsl'⟩ := HWR.out.va.src.at_ hy
      have hys := Its.get_size hy
      have hyl := encI_get hy
      have hyo := okOne_list HOK.out hy
      have HTK := Lib.hid (encI_take (Its.take_succ hy))
      have HLT := Lib.hid hlt
      have hil : (i : Int) < (l.len : Int) := by omega
      obtain ⟨yk, yn, yt, yl⟩ := y
      dsimp only at y0 y1 y2 y3 hys hsl'
      have hbw : Below wr.heap.size wr (wr.alloc (.cells #[.int .i64 yk, .string yn, .string yt, .slice A' yl.len c'] 63)) := (Below.refl _ _).alloc (Nat.le_refl _) _
      have hic := HIH.out yl.size (by have := HSZ.out; omega) (yk, yn, yt, yl) A' c' S _ (Nat.le_refl _) (by have := HSZ.out; omega) hyo (by have := HN8.out; omega) (hsl'.below hbw (fun g hg => Nat.lt_of_lt_of_le (HS.out g hg) HWR.out.va.bel.size)) (fun g hg => Nat.lt_of_lt_of_le (HS.out g hg) (Nat.le_trans HWR.out.va.bel.size hbw.size))
      unfold valI at hic
      dsimp only at hic
      obtain ⟨E, hE⟩ : ∃ E, encOne (yk, yn, yt, yl) = E := ⟨_, rfl⟩
      rw [hE] at hic HTK hyl
      have HPUT := fun (w5 : World) (h5 : WrAt w S k n t (some ⟨g, off, none⟩) l c (([] ++ n.data.toList) ++ t.data.toList ++ encI (l.take i)) w5) => Lib.hid (h5.put HS.out ⟨E.toArray⟩ (by
        have h1 := HN8.out
        have h2 := hyl
        have h3 : (⟨E.toArray⟩ : ByteArray).size = E.length := by show E.toArray.size = _; simp
        rw [h3]
        simp only [List.length_append, List.nil_append, Array.length_toList]
        have h4 : n.data.size = n.size := rfl
        have h6 : t.data.size = t.size := rfl
        omega))
      have HIC := Lib.hid hic
      have HYL := Lib.hid hyl
      clear hsg hsl' hys hy hbw hlt hic hE hyl hyo
      go_wp2_with (first
        | (go_at_call 137; (with_reducible refine HIC.out.mono ?_); rintro e w5 ⟨rfl, hb5⟩; have H5 := Lib.hid ((HWR.out.alloc HS.out _).next HS.out hb5); clear hb5)
        | (go_at_call 142; (with_reducible refine (HPUT _ H5.out).out.mono ?_); rintro e w6 ⟨rfl, h6⟩; have H6 := Lib.hid h6; clear h6))
      go_roundw
      case rel => exact ⟨i + 1, rfl, HLT.out, by rw [HTK.out, ← List.append_assoc]; simpa using H6.out⟩
      case measure => have := HLT.out; simp only [intOf]; omega
    · obtain rfl : i = l.len := by omega
      have HKD : ∃ y : UInt8, UInt8.ofNat k.toNat = y ∧ IntKind.u8.wrap k = ((y.toNat : Nat) : Int) := by
        rcases okOne_kind HOK.out with rfl | rfl | rfl <;> exact ⟨_, rfl, by decide⟩
      obtain ⟨y, hy, hky⟩ := HKD
      obtain ⟨L, hL⟩ : ∃ L, ([] ++ n.data.toList) ++ t.data.toList ++ encI (l.take l.len) = L := ⟨_, rfl⟩
      have hLb : L = bodyOne (k, n, t, l) := by rw [← hL, Its.take_all]; unfold bodyOne; simp [List.append_assoc]; exact Nat.le_refl _
      rw [hL] at HWR
      have hLl : L.length < 268435456 := by
        have h1 := HN8.out
        have h2 : (bodyOne (k, n, t, l)).length = n.size + (t.size + (encI l).length) := by unfold bodyOne; simp
        rw [hLb, h2]; omega
      have HLEN := fun (wx : World) (hx : WrAt w S k n t A l c L wx) => Lib.hid (show Calls Tryz.prog 144 #[.pointer (some ⟨w.heap.size + 1, 0, none⟩)] wx fun e w' => e = .returned (.int .i64 (L.length : Nat)) ∧ w' = wx from (Tryz.Builder_Len (w.heap.size + 1) (w.heap.size + 1) (Lib.byteCells L) wx hx.bld).mono (fun e w' h => ⟨by rw [h.1, Lib.byteCells_length], h.2⟩))
      have HSTR := fun (wx : World) (hx : WrAt w S k n t A l c L wx) => Lib.hid (builder_String (w.heap.size + 1) (w.heap.size + 1) L wx hx.bld hx.lo)
      obtain ⟨m, hm⟩ : ∃ m, L.length = m := ⟨_, rfl⟩
      rw [hm] at HLEN hLl
      have HLG := fun wx => Lib.hid (enc_length m wx hLl)
      obtain ⟨LB, hLB⟩ : ∃ LB, lenB m = LB := ⟨_, rfl⟩
      rw [hLB] at HLG
      have hLB10 : LB.length ≤ 11 := by rw [← hLB]; exact lenF_short 10 m
      have hc1 : ¬ (9223372036854775807 < 1 + LB.length) := by omega
      have hc2 : 1 + LB.length ≤ 9223372036854775807 := by omega
      have hc3 : ¬ (9223372036854775807 < 1 + LB.length + L.length) := by omega
      have hc4 : 1 + LB.length + L.length ≤ 9223372036854775807 := by omega
      have HCV : ∀ (g : Nat) (W : World), W.cell? ⟨g, 0, none⟩ = some (.int .u8 (IntKind.u8.wrap k)) → (convert 183 9 (.slice (some ⟨g, 0, none⟩) 1 1)).run Tryz.prog W = .ok (.string ⟨#[y]⟩) W := by
        intro g W hc
        refine conv_str (L := [y]) ?_ 1 1 rfl
        intro j hj
        obtain rfl : j = 0 := by simpa using hj
        rw [hky] at hc
        exact hc
      have HEQ := Lib.hid (show encOne (k, n, t, l) = [y] ++ LB ++ L by unfold encOne; rw [← hLb, hm, hLB, hy]; simp)
      clear hL hLb hm hLB hy hLl HN8 HEL HOK HIH HSZ hi hlt H1 H2 HV x1 x2 x3
      have hsz := HWR.out.lo
      go_wp2_with fail
      go_region_with (first
        | (go_at_call 144; (with_reducible refine (HLEN _ (by first | exact HWR.out | exact HWR.out.drew HS.out | exact (HWR.out.alloc HS.out _).drew HS.out | exact HWR.out.alloc HS.out _ | exact (HWR.out.drew HS.out).alloc HS.out _)).out.mono ?_); rintro e w5 ⟨rfl, rfl⟩)
        | (go_at_call 143; (with_reducible refine (HLG _).out.mono ?_); rintro e w6 ⟨rfl, hb6⟩; have hcw6 := (bcell hb6).1; have hs6 := hb6.size; have H6 : Hid (WrAt w S k n t A l c L w6) := Lib.hid (by first | exact HWR.out.next HS.out hb6 | exact (HWR.out.drew HS.out).next HS.out hb6 | exact ((HWR.out.alloc HS.out _).drew HS.out).next HS.out hb6 | exact (HWR.out.alloc HS.out _).next HS.out hb6); have x6 := H6.out.va.all.1; have hz6 := H6.out.lo)
        | (go_at_call 145; (with_reducible refine (HSTR _ (by first | exact H6.out | exact H6.out.drew HS.out | exact (H6.out.alloc HS.out _).drew HS.out | exact H6.out.alloc HS.out _ | exact (H6.out.drew HS.out).alloc HS.out _)).out.mono ?_); rintro e w7 ⟨rfl, hb7, hcs7⟩; have HB7 : Hid (Below w.heap.size w w7) := Lib.hid (by { first | exact (H6.out).va.bel.trans (hb7.mono (Nat.le_succ _)) | exact (H6.out.drew HS.out).va.bel.trans (hb7.mono (Nat.le_succ _)) | exact ((H6.out.alloc HS.out _).drew HS.out).va.bel.trans (hb7.mono (Nat.le_succ _)) | exact (H6.out.alloc HS.out _).va.bel.trans (hb7.mono (Nat.le_succ _)) | exact ((H6.out.drew HS.out).alloc HS.out _).va.bel.trans (hb7.mono (Nat.le_succ _)) }); have x8 := hcs7 ⟨w.heap.size, 0, none⟩ (.int .i64 k) (by { first | exact (H6.out).va.all.1 | exact (H6.out.drew HS.out).va.all.1 | exact ((H6.out.alloc HS.out _).drew HS.out).va.all.1 | exact (H6.out.alloc HS.out _).va.all.1 | exact ((H6.out.drew HS.out).alloc HS.out _).va.all.1 }); first | (have x7 := hcs7 ⟨w6.heap.size, 0, none⟩ (.int .u8 ((y.toNat : Nat) : Int)) (by simp [go_sem]; done)) | (have x7 := hcs7 ⟨wr.heap.size, 0, none⟩ (.int .u8 ((y.toNat : Nat) : Int)) (by rw [hcw6 _ _ (by first | (simp; done) | (simp; omega))]; simp [go_sem]; done)) | skip))
      all_goals
        go_wp2_with fail
        go_ret
        refine ⟨?_, ?_⟩
        · rw [HEQ.out]
          simp [ByteArray.mk_append_mk]
          try rfl
        · first
          | exact HB7.out
          | exact HB7.out.drew
          | exact HB7.out.alloc HB7.out.size _
          | exact (HB7.out.alloc HB7.out.size _).drew
end Go.Proofs.YtjhlddlocpkhkaaGreat
