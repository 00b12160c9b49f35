/- The reference of encoding: List, Length, Write, Encode. The reference: numbers of int as items (01.Of, 02.Make, 02.Of). Encoding: parts of a string; what changes but a reader's box; the length of what is read (plain). -/
import Derived.Test.YtjhlddlocpkhkaaGreatWgJ02
import Derived.Test.YtjhlddlocpkhkaaGreatWgJ03
import Derived.Test.YtjhlddlocpkhkaaGreatWgWk
import Derived.Test.YtjhlddlocpkhkaaGreatWgJ00
namespace Go.Proofs.YtjhlddlocpkhkaaGreat
open Go.RowKit
set_option maxRecDepth 100000
set_option linter.unusedVariables false
set_option maxHeartbeats 8000000
/-- An item that a call of the reference hands back: its lists lie in memory of S, or in memory that the call made. -/
def ItS (S : Nat → Prop) (y : Its.One) (w : World) (e : Ending) (w' : World) : Prop :=
  ∃ A c, e = .returned (.agg #[.int .i64 y.1, .string y.2.1, .string y.2.2.1, .slice A y.2.2.2.len c]) ∧ SlI w' (fun g => S g ∨ (w.heap.size ≤ g ∧ g < w'.heap.size)) A y.2.2.2 ∧ Below w.heap.size w w'
theorem r08_List (l : Its) (A : Option Addr) (c : Nat) (S : Nat → Prop) (w : World) (hsz : l.len ≤ 100000) (hsl : SlI w S A l) (hS : ∀ g, S g → g < w.heap.size) :
    Calls Tryz.prog 118 #[.slice A l.len c] w (ItS S (2, ⟨#[]⟩, ⟨#[]⟩, l) w) := by
  obtain ⟨i, hi, hz, hs1, hb1⟩ := itemE
  obtain ⟨L, hL1, hL2⟩ := hsl
  have hbw : Below w.heap.size w (w.alloc (.cells #[.int .i64 0, .string ⟨#[]⟩, .string ⟨#[]⟩, .slice none 0 0] 63)) := (Below.refl _ _).alloc (Nat.le_refl _) _
  have HR := Lib.hid (hL1.reads (k := 4) hL2.length hS hbw)
  have HO := Lib.hid (World.ownsRow_nil (w.alloc (.cells #[.int .i64 0, .string ⟨#[]⟩, .string ⟨#[]⟩, .slice none 0 0] 63)) (w.heap.size + 1) 63 4)
  have HONE := Lib.hid hL2.one
  have HL2 := Lib.hid (And.intro hL2 hS)
  have HBX := Lib.hid (heap_alloc_new w (.cells #[.int .i64 0, .string ⟨#[]⟩, .string ⟨#[]⟩, .slice none 0 0] 63))
  have HBW := Lib.hid hbw
  have HSZ := Lib.hid hsz
  clear hL1 hL2 hS hbw
  go_enter Tryz.func118, Tryz.ntmps118
  go_wp2_with (at_builtin; go_loud (refine wpList_append_any _ rfl _ _ 61 rfl (w.heap.size + 1) 63 i (.agg #[.int .i64 0, .string ByteArray.empty, .string ByteArray.empty, .slice none 0 0]) 4 64 Tryz.underlying61 hi hz hs1 hb1 rfl (by decide) (.slice none 0 0) 0 [] rfl HO.out _ A l.len c L rfl HR.out HONE.out (by have := HSZ.out; unfold maxLen; omega) (by have := HSZ.out; omega) (by simp) ?_))
  intro v' w4 hown hgrow hv
  obtain ⟨A4, c4, rfl⟩ := owns_shape hown
  have hb4 : Below (w.heap.size + 1) _ w4 := below_grown hgrow (by simp) (fun g hg => by cases hg)
  have hbk := (hb4.block _ (Nat.lt_succ_self _)).trans HBX.out
  have q0 := cell_of_row _ _ 0 _ _ _ hbk
  have q1 := cell_of_row _ _ 1 _ _ _ hbk
  have q2 := cell_of_row _ _ 2 _ _ _ hbk
  have q3 := cell_of_row _ _ 3 _ _ _ hbk
  have f0 := frozen_of_row _ _ 0 _ _ hbk
  have f1 := frozen_of_row _ _ 1 _ _ hbk
  have f2 := frozen_of_row _ _ 2 _ _ hbk
  have f3 := frozen_of_row _ _ 3 _ _ hbk
  have HSL : Hid (SlI w4 (fun g => (S g ∨ (w.heap.size ≤ g ∧ g < w4.heap.size)) ∧ g ≠ w.heap.size) A4 l) := Lib.hid ⟨L, by
      intro h0
      obtain ⟨g, off, e1, hg, hc⟩ := owns_row hown (by simpa using h0)
      refine ⟨g, off, e1, ⟨.inr ⟨by have := hg.1; omega, hg.2⟩, by have := hg.1; omega⟩, fun j u hu => hc j u (by simpa using hu)⟩, (HL2.out.1.keep (fun p hp => ((hb4.mono (Nat.le_succ _)).cell (HL2.out.2 _ hp)).trans (HBW.out.cell (HL2.out.2 _ hp)))).mono (fun g hg => ⟨.inl hg, by have := HL2.out.2 g hg; omega⟩)⟩
  have HB4 : Hid (Below w.heap.size w w4) := Lib.hid (HBW.out.trans (hb4.mono (Nat.le_succ _)))
  have HLE : Hid (w.heap.size < w4.heap.size) := Lib.hid (Nat.lt_of_lt_of_le (by simp) hb4.size)
  clear hown hgrow hv hb4 hbk
  go_wp2
  refine bodyPost_ret (v := .agg #[.int .i64 2, .string ⟨#[]⟩, .string ⟨#[]⟩, .slice A4 (0 + l.len) c4]) (by simp [results, Tryz.results118, go_sem, q0, q1, q2, q3]) rfl ?_
  refine ⟨A4, c4, by simp, ?_, ?_⟩
  · have hcell : ∀ (V : World) (j : Nat) (u : Value) (p : Addr), p.block ≠ w.heap.size → (V.setCell ⟨w.heap.size, j, none⟩ u).cell? p = V.cell? p := fun V j u p hp => World.cell?_setCell_other _ _ _ _ (fun e => hp (by have := congrArg Addr.block e; first | exact this | exact this.symm))
    refine (HSL.out.keep (fun p hp => ?_)).mono (fun g hg => by simpa using hg.1)
    rw [hcell _ _ _ _ hp.2, hcell _ _ _ _ hp.2, hcell _ _ _ _ hp.2, hcell _ _ _ _ hp.2]
  · exact (((HB4.out.setCell (p := ⟨w.heap.size, 0, none⟩) (Nat.le_refl _) _).setCell (p := ⟨w.heap.size, 1, none⟩) (Nat.le_refl _) _).setCell (p := ⟨w.heap.size, 2, none⟩) (Nat.le_refl _) _).setCell (p := ⟨w.heap.size, 3, none⟩) (Nat.le_refl _) _
theorem conv_byte {y : UInt8} {z : Int} (hz : z = ((y.toNat : Nat) : Int)) : ∀ (g : Nat) (W : World), W.cell? ⟨g, 0, none⟩ = some (.int .u8 z) → (convert 183 9 (.slice (some ⟨g, 0, none⟩) 1 1)).run Tryz.prog W = .ok (.string ⟨#[y]⟩) W := by
  intro g W hc
  refine conv_str (L := [y]) ?_ 1 1 rfl
  intro j hj
  obtain rfl : j = 0 := by simpa using hj
  rw [hz] at hc
  exact hc
theorem app_byte (M : List UInt8) (y : UInt8) : (⟨M.toArray⟩ : ByteArray) ++ (⟨#[y]⟩ : ByteArray) = ⟨(M ++ [y]).toArray⟩ := by
  simp [ByteArray.mk_append_mk]
theorem app_bytes (M N : List UInt8) : (⟨M.toArray⟩ : ByteArray) ++ (⟨N.toArray⟩ : ByteArray) = ⟨(M ++ N).toArray⟩ := by
  simp [ByteArray.mk_append_mk]
theorem r08_Length (n0 : Nat) (w : World) (hn : n0 < 268435456) : Calls Tryz.prog 146 #[.int .i64 n0] w fun e w' => e = .returned (.string ⟨(lenB n0).toArray⟩) ∧ Below w.heap.size w w' := by
  have HN0 := Lib.hid hn
  clear hn
  go_enter Tryz.func146, Tryz.ntmps146
  go_wp2
  go_loopw [0, 3] (fun v0 v3 wr => ∃ (n : Nat) (M : List UInt8), v0 = .int .i64 n ∧ v3 = .string ⟨M.toArray⟩ ∧ lenB n0 = M ++ lenF (10 - M.length) n ∧ M.length ≤ 3 ∧ n < 128 ^ (4 - M.length) ∧ Below w.heap.size w wr) (fun v0 _ _ => (intOf v0).toNat)
  case atStart => exact ⟨n0, [], rfl, rfl, rfl, by simp, HN0.out, Below.refl _ _⟩
  case round =>
    obtain ⟨n, M, rfl, rfl, heq, hm3, hnb, hb⟩ := hrel
    have HB := Lib.hid hb
    have HEQ := Lib.hid heq
    have hn8 : n < 268435456 := Nat.lt_of_lt_of_le hnb (by
      rcases (by omega : M.length = 0 ∨ M.length = 1 ∨ M.length = 2 ∨ M.length = 3) with h | h | h | h <;> rw [h] <;> decide)
    have c1 : ¬ (9223372036854775807 < M.length + 1) := by omega
    have c2 : M.length + 1 ≤ 9223372036854775807 := by omega
    have HM := Lib.hid (And.intro hm3 hnb)
    by_cases h128 : 128 ≤ n
    · have k1 : decide ((128 : Int) ≤ (n : Int)) = true := decide_eq_true (by omega)
      obtain ⟨y, hy⟩ : ∃ y, UInt8.ofNat (n % 128 + 128) = y := ⟨_, rfl⟩
      have hyn : y.toNat = n % 128 + 128 := by rw [← hy, UInt8.toNat_ofNat']; omega
      obtain ⟨q, hq⟩ : ∃ q, n / 128 = q := ⟨_, rfl⟩
      have e1 : (n : Int).tmod 128 = ((n % 128 : Nat) : Int) := by rw [Int.tmod_eq_emod_of_nonneg (by omega)]; omega
      have e3 : (n : Int).tdiv 128 = (q : Int) := by rw [Int.tdiv_eq_ediv_of_nonneg (by omega)]; omega
      have HCV := conv_byte (y := y) (z := ((n % 128 : Nat) : Int) + 128) (by rw [hyn]; omega)
      have HY := Lib.hid (And.intro hy (And.intro hyn (And.intro hq h128)))
      clear hb heq hm3 hnb hy hyn hq
      have HWQ := Lib.hid (show wrap64 (q : Int) = (q : Int) from IntWalk.wrap64_in _ (by have := HY.out.2.2; omega))
      go_wp2
      have hm2 : M.length ≤ 2 := by
        rcases (by have := HM.out.1; omega : M.length ≤ 2 ∨ M.length = 3) with h | h
        · exact h
        · have h1 := HM.out.2
          rw [h] at h1
          have h2 := HY.out.2.2.2
          simp at h1
          omega
      refine ⟨⟨q, M ++ [y], by rw [HWQ.out], by rw [app_byte], ?_, by rw [List.length_append]; simp; omega, ?_, HB.out.alloc HB.out.size _⟩, ?_⟩
      · rw [HEQ.out, List.length_append]
        obtain ⟨f, hf⟩ : ∃ f, 10 - M.length = f + 1 := ⟨10 - M.length - 1, by omega⟩
        have hf2 : 10 - (M.length + [y].length) = f := by simp; omega
        rw [hf, hf2]
        conv => lhs; unfold lenF
        rw [if_neg (by have := HY.out.2.2.2; omega), HY.out.1, HY.out.2.2.1]
        simp
      · rw [← HY.out.2.2.1, List.length_append]
        have h1 := HM.out.2
        rcases (by omega : M.length = 0 ∨ M.length = 1 ∨ M.length = 2) with h | h | h <;> rw [h] at h1 ⊢ <;> simp at h1 ⊢ <;> omega
      · rw [HWQ.out]
        have := HY.out.2.2
        simp only [intOf]
        omega
    · have k1 : decide ((128 : Int) ≤ (n : Int)) = false := decide_eq_false (by omega)
      obtain ⟨y, hy⟩ : ∃ y, UInt8.ofNat n = y := ⟨_, rfl⟩
      have hyn : y.toNat = n := by rw [← hy, UInt8.toNat_ofNat']; omega
      have HCV := conv_byte (y := y) (z := (n : Int) % 256) (by rw [hyn]; omega)
      have HCV2 := conv_byte (y := y) (z := (n : Int)) (by rw [hyn])
      have HF : Hid (lenB n0 = M ++ [y]) := Lib.hid (by
        rw [heq]
        obtain ⟨f, hf⟩ : ∃ f, 10 - M.length = f + 1 := ⟨10 - M.length - 1, by omega⟩
        rw [hf]
        unfold lenF
        rw [if_pos (by omega), hy])
      clear hb heq hm3 hnb hy hyn
      go_wp2
      go_ret
      exact ⟨by rw [HF.out, ← app_byte]; rfl, HB.out.alloc HB.out.size _⟩
theorem nt_bytes (n t : ByteArray) : n ++ t = ⟨(n.data.toList ++ t.data.toList).toArray⟩ := by
  obtain ⟨d⟩ := n
  obtain ⟨f⟩ := t
  have e1 : d = d.toList.toArray := by simp
  have e2 : f = f.toList.toArray := by simp
  have e3 : (⟨d⟩ : ByteArray) ++ (⟨f⟩ : ByteArray) = (⟨d.toList.toArray⟩ : ByteArray) ++ (⟨f.toList.toArray⟩ : ByteArray) := by rw [← e1, ← e2]
  rw [e3]
  exact app_bytes _ _
theorem encI_take_le (l : Its) : ∀ i, (encI (l.take i)).length ≤ (encI l).length := by
  induction l with
  | nil => intro i; cases i <;> exact Nat.le_refl _
  | cons k n t l r _ ih =>
    intro i
    cases i with
    | zero => rw [Its.take_zero]; exact Nat.zero_le _
    | succ i =>
      have e1 : encI (.cons k n t l r) = encOne (k, n, t, l) ++ encI r := rfl
      have e2 : encI ((Its.cons k n t l r).take (i + 1)) = encOne (k, n, t, l) ++ encI (r.take i) := rfl
      rw [e1, e2, List.length_append, List.length_append]
      have := ih i
      omega
theorem r08_Write (N : Nat) : ∀ (y : Its.One) (A : Option Addr) (c : Nat) (S : Nat → Prop) (w : World), y.2.2.2.size ≤ N → N ≤ 100000 → okOne y = true → (encOne y).length ≤ 200000000 → SlI w S A y.2.2.2 → (∀ g, S g → g < w.heap.size) →
    Calls Tryz.prog 140 #[valI y A c] w fun e w' => e = .returned (.string ⟨(encOne y).toArray⟩) ∧ Below w.heap.size w w' := by
  induction N using Nat.strongRecOn with
  | ind N ih =>
  intro y A c S w hsz hN hok hel hsl hS
  obtain ⟨k, n, t, l⟩ := y
  have HIH := Lib.hid ih
  have HS := Lib.hid hS
  have HSZ := Lib.hid hsz
  have hl6 : l.len ≤ 100000 := Nat.le_trans (Its.len_size l) (Nat.le_trans hsz hN)
  have hbl : (bodyOne (k, n, t, l)).length ≤ 200000000 := by unfold encOne at hel; simp only [List.length_cons, List.length_append] at hel; omega
  have hn8 : n.size + (t.size + (encI l).length) ≤ 200000000 := by
    have h1 : (bodyOne (k, n, t, l)).length = n.size + (t.size + (encI l).length) := by unfold bodyOne; simp
    omega
  have HN8 := Lib.hid hn8
  have HOK := Lib.hid hok
  have HV := Lib.hid (VaAt.start (k := k) (n := n) (t := t) (A := A) (l := l) (c := c) hsl hS)
  have c1 : ¬ (9223372036854775807 < n.size + t.size) := by omega
  have c2 : n.size + t.size ≤ 9223372036854775807 := by omega
  clear ih hsl hS hsz hok hel hbl hn8
  unfold valI
  dsimp only
  go_enter Tryz.func140, Tryz.ntmps140
  go_wp2_with fail
  clear c1 c2
  go_loopw [3, 4] (fun vs v wr => ∃ (i : Nat) (L : List UInt8), vs = .string ⟨L.toArray⟩ ∧ v = .int .i64 i ∧ i ≤ l.len ∧ L = n.data.toList ++ t.data.toList ++ encI (l.take i) ∧ VaAt w S k n t A l c wr) (fun _ v _ => l.len - (intOf v).toNat)
  case atStart => exact ⟨0, _, by rw [nt_bytes], rfl, Nat.zero_le _, by rw [Its.take_zero]; show _ = _ ++ []; rw [List.append_nil], HV.out⟩
  case round =>
    obtain ⟨i, L, rfl, rfl, hi, hL, hva⟩ := hrel
    have HL := Lib.hid hL
    have HVA := Lib.hid hva
    obtain ⟨x0, x1, x2, x3⟩ := hva.all
    clear hva
    have hLl : L.length ≤ 200000000 := by
      have h1 := HN8.out
      have h2 : (encI (l.take i)).length ≤ (encI l).length := encI_take_le l i
      rw [hL]
      simp only [List.length_append, Array.length_toList]
      have h4 : n.data.size = n.size := rfl
      have h6 : t.data.size = t.size := rfl
      omega
    by_cases hlt : i < l.len
    · obtain ⟨y, hy⟩ := Its.get_lt hlt
      obtain ⟨g, off, A', c', rfl, hsg, y0, y1, y2, y3, hsl'⟩ := HVA.out.src.at_ hy
      have hys := Its.get_size hy
      have hyl := encI_get hy
      have hyo := okOne_list HOK.out hy
      have HTK := Lib.hid (encI_take (Its.take_succ hy))
      have HLT := Lib.hid hlt
      have hil : (i : Int) < (l.len : Int) := by omega
      have k1 : decide ((i : Int) < (l.len : Int)) = true := decide_eq_true (by omega)
      have k3 : (0 : Int) ≤ (i : Int) := by omega
      obtain ⟨yk, yn, yt, yl⟩ := y
      dsimp only at y0 y1 y2 y3 hys hsl'
      have hic := HIH.out yl.size (by have := HSZ.out; omega) (yk, yn, yt, yl) A' c' S wr (Nat.le_refl _) (by have := HSZ.out; omega) hyo (by have := HN8.out; omega) hsl' (fun g hg => Nat.lt_of_lt_of_le (HS.out g hg) HVA.out.bel.size)
      unfold valI at hic
      dsimp only at hic
      obtain ⟨E, hE⟩ : ∃ E, encOne (yk, yn, yt, yl) = E := ⟨_, rfl⟩
      rw [hE] at hic HTK hyl
      have c1 : ¬ (9223372036854775807 < L.length + E.length) := by have := HN8.out; omega
      have c2 : L.length + E.length ≤ 9223372036854775807 := by omega
      have HIC := Lib.hid hic
      clear hsg hsl' hys hy hlt hic hE hyl hyo hL hLl
      go_wp2_with (go_at_call 140; (with_reducible refine HIC.out.mono ?_); rintro e w5 ⟨rfl, hb5⟩; have H5 := Lib.hid (HVA.out.next HS.out hb5); clear hb5)
      refine ⟨⟨i + 1, L ++ E, by rw [app_bytes], by go_num, HLT.out, by rw [HTK.out, HL.out]; simp only [List.append_assoc], H5.out⟩, ?_⟩
      have := HLT.out
      show l.len - ((i : Int) + 1).toNat < l.len - (i : Int).toNat
      omega
    · obtain rfl : i = l.len := by omega
      have k1 : decide ((l.len : Int) < (l.len : Int)) = false := decide_eq_false (by omega)
      have HKD : ∃ y : UInt8, UInt8.ofNat k.toNat = y ∧ IntKind.u8.wrap k = ((y.toNat : Nat) : Int) := by
        rcases okOne_kind HOK.out with rfl | rfl | rfl <;> exact ⟨_, rfl, by decide⟩
      obtain ⟨y, hy, hky⟩ := HKD
      have hLb : L = bodyOne (k, n, t, l) := by rw [hL, Its.take_all]; unfold bodyOne; simp [List.append_assoc]; exact Nat.le_refl _
      obtain ⟨m, hm⟩ : ∃ m, L.length = m := ⟨_, rfl⟩
      have HLG := fun wx => Lib.hid (r08_Length m wx (by omega))
      obtain ⟨LB, hLB⟩ : ∃ LB, lenB m = LB := ⟨_, rfl⟩
      rw [hLB] at HLG
      have hLB10 : LB.length ≤ 11 := by rw [← hLB]; exact lenF_short 10 m
      have c1 : ¬ (9223372036854775807 < 1 + LB.length) := by omega
      have c2 : 1 + LB.length ≤ 9223372036854775807 := by omega
      have c3 : ¬ (9223372036854775807 < 1 + LB.length + L.length) := by omega
      have c4 : 1 + LB.length + L.length ≤ 9223372036854775807 := by omega
      have HCV := conv_byte hky
      have HEQ := Lib.hid (show encOne (k, n, t, l) = [y] ++ LB ++ L by unfold encOne; rw [← hLb, hm, hLB, hy]; simp)
      clear hL hLb hLB hy hLl HN8 HOK HIH HSZ hi hlt HV x1 x2 hky
      have hsz := HVA.out.size
      go_wp2_with fail
      go_region_with (go_at_call 146; (with_reducible refine (HLG _).out.mono ?_); rintro e w6 ⟨rfl, hb6⟩; have H6 : Hid (VaAt w S k n t A l c w6) := Lib.hid (by first | exact HVA.out.next HS.out hb6 | exact (HVA.out.next HS.out (Below.refl _ _).drew).next HS.out hb6 | exact ((HVA.out.alloc HS.out _).next HS.out (Below.refl _ _).drew).next HS.out hb6 | exact (HVA.out.alloc HS.out _).next HS.out hb6 | exact ((HVA.out.next HS.out (Below.refl _ _).drew).alloc HS.out _).next HS.out hb6); have x6 := H6.out.all.1; have hz6 := H6.out.size; have hcw6 := (bcell hb6).1; have hs6 := hb6.size)
      all_goals
        go_wp2_with fail
        go_ret
        refine ⟨?_, ?_⟩
        · rw [HEQ.out]
          simp [ByteArray.mk_append_mk]
          try rfl
        · first
          | exact H6.out.bel
          | exact H6.out.bel.drew
          | exact (H6.out.alloc HS.out _).bel
          | exact (H6.out.alloc HS.out _).bel.drew
theorem r08_Encode (y : Its.One) (A : Option Addr) (c : Nat) (S : Nat → Prop) (w : World) (hsz : y.2.2.2.size ≤ 100000) (hel : (encOne y).length ≤ 200000000) (hsl : SlI w S A y.2.2.2) (hS : ∀ g, S g → g < w.heap.size) :
    Calls Tryz.prog 133 #[valI y A c] w fun e w' => e = .returned (.tuple #[.string (encS y).1, .int .i64 (encS y).2]) ∧ Below w.heap.size w w' := by
  obtain ⟨k, n, t, l⟩ := y
  have HS := Lib.hid hS
  have HV := Lib.hid (VaAt.start (k := k) (n := n) (t := t) (A := A) (l := l) (c := c) hsl hS)
  have hlt : ∀ (wx : World), VaAt w S k n t A l c wx → ∀ g, S g → g < wx.heap.size := fun wx hb g hg => Nat.lt_of_lt_of_le (hS g hg) hb.bel.size
  have HVA := fun (wx : World) (hb : VaAt w S k n t A l c wx) => Lib.hid (r08_Valid l.size (k, n, t, l) A c S wx (Nat.le_refl _) hsz hb.src (hlt wx hb))
  have HDE := fun (wx : World) (hb : VaAt w S k n t A l c wx) => Lib.hid (r08_Depth l.size (k, n, t, l) A c S wx (Nat.le_refl _) hsz hb.src (hlt wx hb))
  have HWR := fun (wx : World) (hb : VaAt w S k n t A l c wx) (hok : okOne (k, n, t, l) = true) => Lib.hid (r08_Write l.size (k, n, t, l) A c S wx (Nat.le_refl _) hsz hok hel hb.src (hlt wx hb))
  clear hsl hS hsz hlt
  unfold valI at HVA HDE HWR ⊢
  dsimp only at HVA HDE HWR ⊢
  obtain ⟨D, hD⟩ : ∃ D, deepOne (k, n, t, l) = D := ⟨_, rfl⟩
  obtain ⟨E, hE⟩ : ∃ E, encOne (k, n, t, l) = E := ⟨_, rfl⟩
  unfold encS
  rw [hD, hE]
  rw [hD] at HDE
  rw [hE] at HWR hel
  clear hD hE
  by_cases hok : okOne (k, n, t, l) = true
  · rw [hok] at HVA
    have HWR2 := fun wx hb => HWR wx hb hok
    rw [if_pos hok]
    clear HWR hok
    by_cases hd : D ≤ deepMax
    · rw [if_pos hd]
      have k1 : decide ((32 : Int) < (D : Int)) = false := decide_eq_false (by unfold deepMax at hd; omega)
      have k2 : decide ((32 : Nat) < D) = false := decide_eq_false (by unfold deepMax at hd; omega)
      clear hd
      by_cases he : E.length ≤ textMax
      · rw [if_pos he]
        have k3 : decide ((65536 : Int) < (E.length : Int)) = false := decide_eq_false (by unfold textMax at he; omega)
        have k4 : decide (65536 < E.length) = false := decide_eq_false (by unfold textMax at he; omega)
        clear he
        go_enter Tryz.func133, Tryz.ntmps133
        go_wp2_with (first
          | (go_at_call 108; (with_reducible refine (HVA _ HV.out).out.mono ?_); rintro e w1 ⟨rfl, hb1⟩; have H1 := Lib.hid (HV.out.next HS.out hb1); obtain ⟨x0, x1, x2, x3⟩ := H1.out.all; clear hb1)
          | (go_at_call 139; (with_reducible refine (HDE _ H1.out).out.mono ?_); rintro e w2 ⟨rfl, hb2⟩; have H2 := Lib.hid (H1.out.next HS.out hb2); obtain ⟨y0, y1, y2, y3⟩ := H2.out.all; clear hb2)
          | (go_at_call 140; (with_reducible refine (HWR2 _ H2.out).out.mono ?_); rintro e w3 ⟨rfl, hb3⟩; have H3 := Lib.hid (H2.out.next HS.out hb3); clear hb3))
        all_goals go_ret2
        all_goals exact ⟨rfl, H3.out.bel⟩
      · rw [if_neg he]
        have k3 : decide ((65536 : Int) < (E.length : Int)) = true := decide_eq_true (by unfold textMax at he; omega)
        have k4 : decide (65536 < E.length) = true := decide_eq_true (by unfold textMax at he; omega)
        clear he
        go_enter Tryz.func133, Tryz.ntmps133
        go_wp2_with (first
          | (go_at_call 108; (with_reducible refine (HVA _ HV.out).out.mono ?_); rintro e w1 ⟨rfl, hb1⟩; have H1 := Lib.hid (HV.out.next HS.out hb1); obtain ⟨x0, x1, x2, x3⟩ := H1.out.all; clear hb1)
          | (go_at_call 139; (with_reducible refine (HDE _ H1.out).out.mono ?_); rintro e w2 ⟨rfl, hb2⟩; have H2 := Lib.hid (H1.out.next HS.out hb2); obtain ⟨y0, y1, y2, y3⟩ := H2.out.all; clear hb2)
          | (go_at_call 140; (with_reducible refine (HWR2 _ H2.out).out.mono ?_); rintro e w3 ⟨rfl, hb3⟩; have H3 := Lib.hid (H2.out.next HS.out hb3); clear hb3))
        all_goals go_ret2
        all_goals exact ⟨rfl, H3.out.bel⟩
    · rw [if_neg hd]
      have k1 : decide ((32 : Int) < (D : Int)) = true := decide_eq_true (by unfold deepMax at hd; omega)
      have k2 : decide ((32 : Nat) < D) = true := decide_eq_true (by unfold deepMax at hd; omega)
      clear hd
      go_enter Tryz.func133, Tryz.ntmps133
      go_wp2_with (first
        | (go_at_call 108; (with_reducible refine (HVA _ HV.out).out.mono ?_); rintro e w1 ⟨rfl, hb1⟩; have H1 := Lib.hid (HV.out.next HS.out hb1); obtain ⟨x0, x1, x2, x3⟩ := H1.out.all; clear hb1)
        | (go_at_call 139; (with_reducible refine (HDE _ H1.out).out.mono ?_); rintro e w2 ⟨rfl, hb2⟩; have H2 := Lib.hid (H1.out.next HS.out hb2); obtain ⟨y0, y1, y2, y3⟩ := H2.out.all; clear hb2))
      all_goals go_ret2
      all_goals exact ⟨rfl, H2.out.bel⟩
  · have hf : okOne (k, n, t, l) = false := by cases h : okOne (k, n, t, l) with
      | true => exact absurd h hok
      | false => rfl
    rw [hf] at HVA
    rw [if_neg hok]
    clear HWR hok hf
    go_enter Tryz.func133, Tryz.ntmps133
    go_wp2_with (first
      | (go_at_call 108; (with_reducible refine (HVA _ HV.out).out.mono ?_); rintro e w1 ⟨rfl, hb1⟩; have H1 := Lib.hid (HV.out.next HS.out hb1); obtain ⟨x0, x1, x2, x3⟩ := H1.out.all; clear hb1))
    all_goals go_ret2
    all_goals exact ⟨rfl, H1.out.bel⟩
theorem make_bytes (n : Nat) (h : n ≤ 1000000) (w : World) : (Instr.makeSlice 183 (.int .i64 (n : Int)) (.int .i64 (n : Int))).run Tryz.prog w =
    .ok (.slice (some ⟨w.heap.size, 0, none⟩) n n) (w.alloc (.cells (cellsOf (List.replicate n 0)) 5)) := by
  rw [← madeCells_zeros]
  exact run_make_row' 183 5 (.int .u8 0) 1 Tryz.underlying183 u8_info rfl .i64 .i64 n (by omega) (by omega) w
theorem u8_wrap_nat (n : Nat) : ((n : Int) % 256) = ((UInt8.ofNat n).toNat : Int) := (byte_mod n).symm
theorem valid_posB {s : ByteArray} (h : 0 < s.size) : valid s = (decide ((s.size : Int) ≤ 128) && ((s[0].toNat : Int) != 0)) := by
  have h1 : ((s.size : Int) == 0) = false := by rw [beq_eq_false_iff_ne]; omega
  rw [valid_pos h, h1, Bool.false_or]
theorem r01_Valid (s : ByteArray) (w : World) :
    Calls Tryz.prog 70 #[.string s] w fun e w' => e = .returned (.bool (valid s)) ∧ w = w' := by
  by_cases h0 : 0 < s.size
  · have hv := Lib.hid (valid_posB h0)
    have he := isEmpty_pos h0
    go_enter Tryz.func70, Tryz.ntmps70
    go_wp2
    all_goals
      go_ret
      exact ⟨ret_bool (by rw [hv.out]; first | (simp [*]; done) | (simp; intros; omega)), rfl⟩
  · obtain rfl : s = ByteArray.empty := by
      apply ByteArray.ext
      apply Array.eq_empty_of_size_eq_zero
      show s.size = 0
      omega
    go_enter Tryz.func70, Tryz.ntmps70
    go_wp2
    go_ret
    exact ⟨rfl, rfl⟩
theorem r01_trim (g o : Nat) (L : List UInt8) (n cap : Nat) (w : World) (hn : L.length = n) (hnc : n ≤ cap) (hm : n ≤ 1000000) (hrow : Row w g o L) :
    Calls Tryz.prog 141 #[.slice (some ⟨g, o, none⟩) n cap] w fun e w' => e = .returned (.string ⟨(trimL L).toArray⟩) ∧ w = w' := by
  have HN := Lib.hid hn
  have HR := Lib.hid hrow
  clear hn hrow
  go_enter Tryz.func141, Tryz.ntmps141
  go_wp2
  go_loop [3] (fun v => ∃ k : Nat, k ≤ n ∧ trimL (L.drop k) = trimL L ∧ v = .int .i64 k) (fun v => n - (intOf v).toNat)
  case atStart => exact ⟨0, Nat.zero_le _, rfl, rfl⟩
  case round =>
    obtain ⟨k, hk, ht, rfl⟩ := hrel
    have HT := Lib.hid ht
    clear ht
    by_cases hlt : k < n
    · have hc := HR.out k (by have := HN.out; omega)
      by_cases h0 : L.getD k 0 = 0
      · have H0 := Lib.hid h0
        have hc0 : w.cell? ⟨g, o + k, none⟩ = some (.int .u8 0) := by rw [hc, h0]; rfl
        clear h0 hc
        go_wp2
        go_round
        case rel =>
          exact ⟨k + 1, by omega, by rw [← trimL_drop_zero (by have := HN.out; omega) H0.out, HT.out], by go_num⟩
        case measure => simp [intOf]; omega
      · obtain ⟨z, hz⟩ : ∃ z : Int, ((L.getD k 0).toNat : Int) = z := ⟨_, rfl⟩
        have hb : (z == 0) = false := by
          rw [beq_eq_false_iff_ne]; intro e; exact h0 (UInt8.toNat_inj.mp (by rw [e] at hz; simpa using hz))
        rw [hz] at hc
        have H0 := Lib.hid h0
        clear h0 hz
        have hcv := conv_row (HR.out.drop k) (n - k) (cap - k) (by have := HN.out; simp; omega)
        generalize hS : (⟨(List.drop k L).toArray⟩ : ByteArray) = S at hcv
        have HS := Lib.hid hS
        clear hS
        go_wp2
        go_ret
        exact ⟨ret_string (by rw [← HS.out, ← HT.out, trimL_drop_stop (by have := HN.out; omega) H0.out]), rfl⟩
    · obtain rfl : k = n := by omega
      have hcv := fun A => conv_row_zero w g A (cap - k)
      by_cases hcap : cap = k
      · subst hcap
        have hcv := fun A => conv_row_zero w g A 0
        go_wp2
        go_ret
        refine ⟨ret_string ?_, rfl⟩
        rw [← HT.out, List.drop_eq_nil_of_le (by have := HN.out; omega)]
        rfl
      · go_wp2
        go_ret
        refine ⟨ret_string ?_, rfl⟩
        rw [← HT.out, List.drop_eq_nil_of_le (by have := HN.out; omega)]
        rfl
theorem r01_Of (n : Nat) (w : World) (hn : n < 18446744073709551616) :
    Calls Tryz.prog 135 #[.int .u64 n] w fun e w' => e = .returned (.string (B n)) ∧ Below w.heap.size w w' := by
  have hmk : ∀ w, (Instr.makeSlice 183 (.int .i64 8) (.int .i64 8)).run Tryz.prog w = .ok (.slice (some ⟨w.heap.size, 0, none⟩) 8 8) (w.alloc (.cells (cellsOf (List.replicate 8 0)) 5)) := make_bytes 8 (by omega)
  go_enter Tryz.func135, Tryz.ntmps135
  go_wp2
  go_loopw [0, 4] (fun c k wr => ∃ i : Nat, i ≤ 8 ∧ k = .int .i64 (7 - (i : Int)) ∧ c = .int .u64 (n / 256 ^ i : Nat) ∧ Bk wr w.heap.size 5 (fill 8 i n) ∧ Below w.heap.size w wr) (fun _ k _ => (intOf k + 1).toNat)
  case atStart => exact ⟨0, by omega, rfl, by rw [Nat.pow_zero, Nat.div_one], by rw [fill_zero]; exact Bk.new w 5 (List.replicate 8 0), (Below.refl _ _).alloc (Nat.le_refl _) _⟩
  case round =>
    obtain ⟨i, hi, rfl, rfl, hb, hbel⟩ := hrel
    by_cases hlt : i < 8
    · have HB := Lib.hid hb
      have hc := hb.cell (k := 7 - i) (by rw [fill_length _ hi]; omega)
      have hf := hb.free (7 - i)
      obtain ⟨z, hz⟩ : ∃ z : Int, 7 - (i : Int) = z := ⟨_, rfl⟩
      have hzz : z.toNat = 7 - i := by omega
      have z0 : 0 ≤ z := by omega
      have z1 : z ≤ 7 := by omega
      have HZ := Lib.hid hz
      have hnn : n / 256 ^ i < 18446744073709551616 := Nat.lt_of_le_of_lt (Nat.div_le_self _ _) hn
      have hnx : n / 256 ^ i / 256 = n / 256 ^ (i + 1) := by rw [Nat.div_div_eq_div_mul, ← Nat.pow_succ]
      have hset := fill_set (N := 8) n hlt
      have HSET := Lib.hid hset
      clear hset
      generalize n / 256 ^ i = m at *
      rw [hz]
      have HNX := Lib.hid hnx
      clear hb hz hnx
      go_wp2
      go_roundw
      case rel =>
        refine ⟨i + 1, by omega, by have := HZ.out; rw [show z - 1 = 7 - ((i + 1 : Nat) : Int) by omega], by rw [← HNX.out]; rfl, ?_, hbel.setCell (by simp) _⟩
        rw [u8_wrap_nat]
        have := HB.out.set (7 - i) (UInt8.ofNat m)
        rw [show 7 - i = 8 - 1 - i by omega, HSET.out] at this
        rw [show 7 - i = 8 - 1 - i by omega]
        exact this
      case measure => simp [intOf]; omega
    · obtain rfl : i = 8 := by omega
      rw [fill_full] at hb
      have HB := Lib.hid hb
      clear hb
      go_wp2_with (go_at_call 141; refine (r01_trim w.heap.size 0 (be 8 n) 8 8 _ (be_length _ _) (by omega) (by omega) HB.out.row).mono ?_; rintro e w' ⟨rfl, rfl⟩)
      go_ret
      exact ⟨ret_string (by rw [trimL_be (by omega)]; rfl), hbel⟩
theorem r02_MakeZ (s : Bool) (a : ByteArray) (w : World) :
    Calls Tryz.prog 134 #[.bool s, .string a] w fun e w' => e = .returned (.agg #[.bool (s && !a.toList.isEmpty), .string a]) ∧ Below w.heap.size w w' := by
  cases s
  · go_enter Tryz.func134, Tryz.ntmps134
    go_wp2_with fail
    exact bodyPost_ret (v := .agg #[.bool false, .string a]) (by simp [results, Tryz.results134, go_sem]) rfl ⟨rfl, (Below.refl _ _).alloc (Nat.le_refl _) _⟩
  · go_enter Tryz.func134, Tryz.ntmps134
    go_wp2_with fail
    exact bodyPost_ret (v := .agg #[.bool (!a.toList.isEmpty), .string a]) (by simp [results, Tryz.results134, go_sem]) rfl ⟨rfl, (Below.refl _ _).alloc (Nat.le_refl _) _⟩
theorem r01_Of' (z : Int) (n : Nat) (w : World) (hz : z = n) (hn : n < 18446744073709551616) : Calls Tryz.prog 135 #[.int .u64 z] w fun e w' => e = .returned (.string (B n)) ∧ Below w.heap.size w w' := by
  subst hz
  exact r01_Of n w hn
theorem r02_OfZ (z : Int) (w : World) (hlo : -9223372036854775808 ≤ z) (hhi : z ≤ 9223372036854775807) :
    Calls Tryz.prog 120 #[.int .i64 z] w fun e w' => e = .returned (.agg #[.bool (decide (z < 0)), .string (B z.natAbs)]) ∧ Below w.heap.size w w' := by
  have hbx := heap_alloc_new w (.cells #[.bool false, .string ⟨#[]⟩] 129)
  by_cases h : z < 0
  · obtain ⟨m, hm⟩ : ∃ m, z.natAbs = m := ⟨_, rfl⟩
    obtain ⟨q, hq⟩ : ∃ q, z + 1 = q := ⟨_, rfl⟩
    obtain ⟨p, hp⟩ : ∃ p, -q = p := ⟨_, rfl⟩
    have e1 : IntKind.i64.wrap (z + 1) = q := by rw [IntKind.wrap_i64]; omega
    have e1' : wrap64 (z + 1) = q := by rw [IntWalk.wrap64_in _ (by omega)]; exact hq
    have e2 : IntKind.i64.wrap (-q) = p := by rw [IntKind.wrap_i64]; omega
    have e3 : IntKind.u64.wrap p = p := by rw [IntKind.wrap_u64]; omega
    have e4 : IntKind.u64.wrap (p + 1) = (m : Int) := by rw [IntKind.wrap_u64]; omega
    have hm0 : 0 < m := by omega
    have hm1 : m < 18446744073709551616 := by omega
    have he : (B m).toList.isEmpty = false := B_isEmpty_false (Nat.pos_iff_ne_zero.1 hm0)
    rw [hm, decide_eq_true h]
    have k1 : decide (z < 0) = true := decide_eq_true h
    have HM := Lib.hid (fun W => r01_Of' (m : Int) m W rfl hm1)
    have HK := Lib.hid (fun W => r02_MakeZ true (B m) W)
    rw [he] at HK
    clear hq hp hm hm0 hm1 hlo hhi hbx
    go_enter Tryz.func120, Tryz.ntmps120
    go_wp2_with (first
      | (go_at_call 135; (with_reducible refine (HM.out _).mono ?_); rintro e w1 ⟨rfl, hb1⟩; have hcw1 := (bcell hb1).1; have hfw1 := (bcell hb1).2; have hs1 := hb1.size; have hq1 : w.heap.size < w1.heap.size := by { simp at hs1; omega })
      | (go_at_call 134; (with_reducible refine (HK.out _).mono ?_); rintro e w2 ⟨rfl, hb2⟩; have hcw2 := (bcell hb2).1; have hfw2 := (bcell hb2).2; have hs2 := hb2.size))
    exact bodyPost_ret (v := .agg #[.bool true, .string (B m)]) (by simp [results, Tryz.results120, go_sem, hcw2, hcw1, hq1]) rfl ⟨rfl, ((below2 (below2 ((Below.refl _ _).alloc (Nat.le_refl _) _) hb1) hb2).setCell (by simp) _).setCell (by simp) _⟩
  · obtain ⟨m, hm⟩ : ∃ m, z.natAbs = m := ⟨_, rfl⟩
    obtain rfl : z = (m : Int) := by omega
    have hm1 : m < 18446744073709551616 := by omega
    rw [hm, decide_eq_false h]
    have hcv : IntKind.u64.wrap (m : Int) = (m : Int) := by rw [IntKind.wrap_u64]; omega
    have HM := Lib.hid (fun W => r01_Of' (m : Int) m W rfl hm1)
    have HK := Lib.hid (fun W => r02_MakeZ false (B m) W)
    clear hm hm1 hlo hhi hbx
    go_enter Tryz.func120, Tryz.ntmps120
    go_wp2_with (first
      | (go_at_call 135; (with_reducible refine (HM.out _).mono ?_); rintro e w1 ⟨rfl, hb1⟩; have hcw1 := (bcell hb1).1; have hfw1 := (bcell hb1).2; have hs1 := hb1.size; have hq1 : w.heap.size < w1.heap.size := by { simp at hs1; omega })
      | (go_at_call 134; (with_reducible refine (HK.out _).mono ?_); rintro e w2 ⟨rfl, hb2⟩; have hcw2 := (bcell hb2).1; have hfw2 := (bcell hb2).2; have hs2 := hb2.size))
    exact bodyPost_ret (v := .agg #[.bool false, .string (B m)]) (by simp [results, Tryz.results120, go_sem, hcw2, hcw1, hq1]) rfl ⟨rfl, ((below2 (below2 ((Below.refl _ _).alloc (Nat.le_refl _) _) hb1) hb2).setCell (by simp) _).setCell (by simp) _⟩
end Go.Proofs.YtjhlddlocpkhkaaGreat

namespace Go.Proofs.YtjhlddlocpkhkaaGreat
open Go.RowKit
set_option maxRecDepth 100000
set_option linter.unusedVariables false
set_option maxHeartbeats 4000000
/-- The bytes from a up to e. -/
def seg (s : ByteArray) (a e : Nat) : List UInt8 := (s.data.toList.take e).drop a
section
variable {s : ByteArray} {a e n : Nat}
theorem seg_len (he : e ≤ s.size) : (seg s a e).length = e - a := by
  unfold seg
  rw [List.length_drop, List.length_take, Nat.min_eq_left (by rw [Array.length_toList]; exact he)]
theorem seg_nil (h : e ≤ a) : seg s a e = [] := by
  unfold seg
  exact List.drop_eq_nil_of_le (Nat.le_trans (List.length_take_le _ _) h)
theorem seg_cons (h : a < e) (he : e ≤ s.size) : seg s a e = s[a]'(by omega) :: seg s (a + 1) e := by
  unfold seg
  have hl : a < (s.data.toList.take e).length := by rw [List.length_take, Nat.min_eq_left (by rw [Array.length_toList]; exact he)]; exact h
  rw [List.drop_eq_getElem_cons hl, List.getElem_take]
  rfl
theorem seg_take (h : a + n ≤ e) : (seg s a e).take n = seg s a (a + n) := by
  unfold seg
  rw [List.take_drop, List.take_take, Nat.min_eq_left (by omega)]
theorem seg_drop : (seg s a e).drop n = seg s (a + n) e := by
  unfold seg
  rw [List.drop_drop]
theorem seg_all : seg s 0 s.size = s.data.toList := by
  unfold seg
  rw [List.drop_zero, List.take_of_length_le (by rw [Array.length_toList]; exact Nat.le_refl _)]
theorem seg_extract (h : a ≤ e) (he : e ≤ s.size) : s.extract a e = ⟨(seg s a e).toArray⟩ := by
  unfold seg
  have : (s.extract a e).data = ((s.data.toList.take e).drop a).toArray := by
    rw [ByteArray.data_extract]
    apply Array.toList_inj.1
    simp [List.extract, List.take_drop, show a + (e - a) = e by omega]
  cases hx : s.extract a e
  rw [hx] at this
  simp only at this
  rw [this]
end
/-- What reading a length leaves over is the end of the same part. -/
theorem szS_seg {s : ByteArray} {f k a e n : Nat} {r : List UInt8} (he : e ≤ s.size) (h : szS f k (seg s a e) = some (n, r)) : ∃ a2, a < a2 ∧ a2 ≤ e ∧ r = seg s a2 e := by
  induction f generalizing k a n with
  | zero => simp [szS] at h
  | succ f ih =>
    by_cases hl : a < e
    · rw [seg_cons hl he] at h
      simp only [szS] at h
      split at h
      · cases h
      · split at h
        · simp only [Option.some.injEq, Prod.mk.injEq] at h
          exact ⟨a + 1, by omega, by omega, h.2.symm⟩
        · cases hs : szS f (k + 1) (seg s (a + 1) e) with
          | none => rw [hs] at h; cases h
          | some x =>
            rw [hs] at h
            simp only [Option.some.injEq, Prod.mk.injEq] at h
            obtain ⟨a2, h1, h2, h3⟩ := ih (n := x.1) (k := k + 1) (a := a + 1) (by rw [hs, ← h.2])
            exact ⟨a2, by omega, h2, h3⟩
    · rw [seg_nil (by omega)] at h
      simp [szS] at h
theorem szS_pos {f k n : Nat} {L r : List UInt8} (h : szS f k L = some (n, r)) (hk : 0 < k) : 0 < n := by
  induction f generalizing k L n with
  | zero => simp [szS] at h
  | succ f ih =>
    cases L with
    | nil => simp [szS] at h
    | cons b L =>
      simp only [szS] at h
      split at h
      · cases h
      · rename_i h0
        split at h
        · simp only [Option.some.injEq, Prod.mk.injEq] at h
          have : ¬ (b.toNat = 0 ∧ 0 < k) := h0
          have := h.1
          omega
        · cases hs : szS f (k + 1) L with
          | none => rw [hs] at h; cases h
          | some x =>
            rw [hs] at h
            simp only [Option.some.injEq, Prod.mk.injEq] at h
            have := ih (n := x.1) (k := k + 1) (L := L) (by rw [hs, ← h.2]) (by omega)
            omega
/-- One step: the byte, and either it is the last one or the others follow. -/
theorem szS_step {f k n : Nat} {b : UInt8} {L r : List UInt8} (h : szS (f + 1) k (b :: L) = some (n, r)) : ¬ (b.toNat = 0 ∧ 0 < k) ∧ ((b.toNat < 128 ∧ n = b.toNat ∧ r = L) ∨ (128 ≤ b.toNat ∧ ∃ m, szS f (k + 1) L = some (m, r) ∧ n = b.toNat - 128 + 128 * m)) := by
  simp only [szS] at h
  split at h
  · cases h
  · rename_i h0
    refine ⟨h0, ?_⟩
    split at h
    · rename_i h1
      simp only [Option.some.injEq, Prod.mk.injEq] at h
      exact .inl ⟨h1, h.1.symm, h.2.symm⟩
    · rename_i h1
      cases hs : szS f (k + 1) L with
      | none => rw [hs] at h; cases h
      | some x =>
        rw [hs] at h
        simp only [Option.some.injEq, Prod.mk.injEq] at h
        exact .inr ⟨by omega, x.1, by rw [← h.2], h.1.symm⟩
section
variable {w w' : World} {row : Option Nat}
theorem gb_set {rb i : Nat} {u : Value} : w.grownBy (w.setCell ⟨rb, i, none⟩ u) (some rb) := ⟨rfl, rfl, rfl, by simp, fun k _ hk => heap_setCell_other _ _ _ _ (fun e => hk (by rw [e]))⟩
theorem gb_below (h : Below w.heap.size w w') : w.grownBy w' row := ⟨h.os, h.tape, h.output, h.size, fun k hk _ => h.block k hk⟩
theorem gb_refl : w.grownBy w row := World.grownBy.refl w _
theorem gb_cell {p : Addr} {rb : Nat} (h : w.grownBy w' (some rb)) (hp : p.block < w.heap.size) (hr : p.block ≠ rb) : w'.cell? p = w.cell? p := World.cell?_of_block (h.block p.block hp (fun e => hr (by injection e)))
end
end Go.Proofs.YtjhlddlocpkhkaaGreat
