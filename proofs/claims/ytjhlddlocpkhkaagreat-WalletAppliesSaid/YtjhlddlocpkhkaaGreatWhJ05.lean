/- Encoding, plain: what is written is read back. wallet.find. wallet.find, wallet.count. wallet.canonical. wallet: slices.Clone of counts. -/
import Derived.Test.YtjhlddlocpkhkaaGreatWhJ00
namespace Go.Proofs.YtjhlddlocpkhkaaGreat
open Go.RowKit
set_option maxRecDepth 100000
set_option linter.unusedVariables false
theorem sz_len (f : Nat) : ∀ (k n f' g : Nat) (rest : List UInt8), n < 128 ^ (f + 1) → f + 1 ≤ f' → f + 1 ≤ g → (0 < k → 0 < n) → szS f' k (lenF g n ++ rest) = some (n, rest) := by
  have base : ∀ (k n f' g : Nat) (rest : List UInt8), n < 128 → 1 ≤ f' → 1 ≤ g → (0 < k → 0 < n) → szS f' k (lenF g n ++ rest) = some (n, rest) := by
    intro k n f' g rest hn hf hg hk
    obtain ⟨f'', rfl⟩ : ∃ x, f' = x + 1 := ⟨f' - 1, by omega⟩
    obtain ⟨g', rfl⟩ : ∃ x, g = x + 1 := ⟨g - 1, by omega⟩
    have hb : (UInt8.ofNat n).toNat = n := by rw [UInt8.toNat_ofNat']; omega
    unfold lenF
    rw [if_pos hn]
    show szS (f'' + 1) k (UInt8.ofNat n :: rest) = _
    unfold szS
    rw [hb, if_neg (by omega), if_pos hn]
  induction f with
  | zero => exact fun k n f' g rest hn hf hg hk => base k n f' g rest (by simpa using hn) hf hg hk
  | succ f ih =>
    intro k n f' g rest hn hf hg hk
    by_cases h : n < 128
    · exact base k n f' g rest h (by omega) (by omega) hk
    · obtain ⟨f'', rfl⟩ : ∃ x, f' = x + 1 := ⟨f' - 1, by omega⟩
      obtain ⟨g', rfl⟩ : ∃ x, g = x + 1 := ⟨g - 1, by omega⟩
      have hb : (UInt8.ofNat (n % 128 + 128)).toNat = n % 128 + 128 := by rw [UInt8.toNat_ofNat']; omega
      have hd : n / 128 < 128 ^ (f + 1) := by
        rw [Nat.div_lt_iff_lt_mul (by decide)]
        have : 128 ^ (f + 1 + 1) = 128 ^ (f + 1) * 128 := Nat.pow_succ ..
        omega
      have he := ih (k + 1) (n / 128) f'' g' rest hd (by omega) (by omega) (by intro; omega)
      unfold lenF
      rw [if_neg h]
      show szS (f'' + 1) k (UInt8.ofNat (n % 128 + 128) :: (lenF g' (n / 128) ++ rest)) = _
      unfold szS
      rw [hb, if_neg (by omega), if_neg (by omega), he]
      dsimp only
      congr 2
      omega
theorem size0 {s : ByteArray} (h : s.size = 0) : s = E0 := by
  have h1 : s.data.toList = [] := List.eq_nil_of_length_eq_zero (by rw [← h]; simp)
  have h2 : s.data = #[] := by simpa using h1
  have h3 : (E0 : ByteArray).data = #[] := by decide
  cases s
  have : (E0 : ByteArray) = ⟨#[]⟩ := by decide
  rw [this]
  simpa using h2
theorem len0 {l : Its} (h : l.len = 0) : l = .nil := by
  cases l with
  | nil => rfl
  | cons => simp [Its.len] at h
theorem E0_data : (E0 : ByteArray).data.toList = [] := by decide
/-- The first item of what is written. -/
theorem rd1_enc {lists : Nat} {y : Its.One} {rest : List UInt8} (ho : okOne y = true) (hd : deepOne y + lists ≤ deepMax) (hl : (encOne y ++ rest).length ≤ textMax)
    (ih : y.1 = 2 → rdA (lists + 1) (encI y.2.2.2) = .ok y.2.2.2) : rdO lists (encOne y ++ rest) = .ok (y, rest) := by
  obtain ⟨k, n, t, l⟩ := y
  unfold okOne Its.one at ho
  simp only [okI, Bool.and_true] at ho
  unfold deepOne at hd
  dsimp only at hd ih
  have hbl : (bodyOne (k, n, t, l)).length ≤ textMax := by unfold encOne at hl; simp only [List.length_append, List.length_cons] at hl; omega
  have hsz : szS 5 0 (lenB (bodyOne (k, n, t, l)).length ++ (bodyOne (k, n, t, l) ++ rest)) = some ((bodyOne (k, n, t, l)).length, bodyOne (k, n, t, l) ++ rest) :=
    sz_len 4 0 _ 5 10 _ (by unfold textMax at hbl; omega) (by omega) (by omega) (by omega)
  have he : encOne (k, n, t, l) ++ rest = UInt8.ofNat k.toNat :: (lenB (bodyOne (k, n, t, l)).length ++ (bodyOne (k, n, t, l) ++ rest)) := by unfold encOne; simp
  rw [he]
  unfold rdO rd1
  have hlt : ¬ (bodyOne (k, n, t, l) ++ rest).length < (bodyOne (k, n, t, l)).length := by rw [List.length_append]; omega
  have ht : (bodyOne (k, n, t, l) ++ rest).take (bodyOne (k, n, t, l)).length = bodyOne (k, n, t, l) := by simp
  have hdr : (bodyOne (k, n, t, l) ++ rest).drop (bodyOne (k, n, t, l)).length = rest := by simp
  dsimp only
  rw [hsz]
  dsimp only
  rw [if_neg hlt, ht, hdr]
  by_cases k0 : k = 0
  · subst k0
    rw [if_pos rfl] at ho
    simp only [Bool.and_eq_true, decide_eq_true_eq] at ho
    obtain ⟨hv, h1, h2⟩ := ho
    rw [size0 h1, len0 h2]
    have hbody : bodyOne (0, n, E0, .nil) = n.data.toList := by unfold bodyOne; simp [E0_data, encI]
    rw [hbody]
    have hn : (⟨n.data.toList.toArray⟩ : ByteArray) = n := by simp
    rw [hn]
    simp [hv]
  · rw [if_neg k0] at ho
    by_cases k1 : k = 1
    · subst k1
      rw [if_pos rfl] at ho
      simp only [Bool.and_eq_true, decide_eq_true_eq] at ho
      rw [size0 ho.1, len0 ho.2]
      have hbody : bodyOne (1, E0, t, .nil) = t.data.toList := by unfold bodyOne; simp [E0_data, encI]
      rw [hbody]
      have hn : (⟨t.data.toList.toArray⟩ : ByteArray) = t := by simp
      rw [hn]
      simp
    · rw [if_neg k1] at ho
      by_cases k2 : k = 2
      · subst k2
        rw [if_pos rfl] at ho hd
        simp only [Bool.and_eq_true, decide_eq_true_eq] at ho
        obtain ⟨hv, h1, h2⟩ := ho
        rw [size0 h1, size0 h2]
        have hbody : bodyOne (2, E0, E0, l) = encI l := by unfold bodyOne; simp [E0_data]
        rw [hbody, ih rfl]
        have : lists ≠ deepMax := by omega
        simp [this]
      · rw [if_neg k2] at ho
        cases ho
theorem rd_enc (l : Its) : ∀ lists, okI l = true → deepI l + lists ≤ deepMax → (encI l).length ≤ textMax → rdA lists (encI l) = .ok l := by
  induction l with
  | nil => exact fun _ _ _ _ => rfl
  | cons k n t l r ihl ihr =>
    intro lists ho hd hl
    have ho1 : okOne (k, n, t, l) = true := by unfold okOne Its.one; simp only [okI, Bool.and_true]; simp only [okI, Bool.and_eq_true] at ho; exact ho.1
    have ho2 : okI r = true := by simp only [okI, Bool.and_eq_true] at ho; exact ho.2
    have hd1 : deepOne (k, n, t, l) + lists ≤ deepMax := by unfold deepOne; simp only [deepI] at hd; dsimp only; omega
    have hd2 : deepI r + lists ≤ deepMax := by simp only [deepI] at hd; omega
    have he : encI (.cons k n t l r) = encOne (k, n, t, l) ++ encI r := rfl
    rw [he] at hl ⊢
    have hl2 : (encI r).length ≤ textMax := by rw [List.length_append] at hl; omega
    rw [rdA_cons lists (by unfold encOne; simp)]
    have h1 := rd1_enc (lists := lists) (rest := encI r) ho1 hd1 hl (fun h2 => by
      have h2' : k = 2 := h2
      subst h2'
      unfold deepOne at hd1
      rw [if_pos rfl] at hd1
      refine ihl (lists + 1) ?_ ?_ ?_
      · unfold okOne Its.one at ho1
        simp [okI] at ho1
        exact ho1.1
      · show deepI l + (lists + 1) ≤ deepMax
        dsimp only at hd1
        omega
      · have : (encI l).length ≤ (encOne (2, n, t, l)).length := by unfold encOne bodyOne; simp only [List.length_cons, List.length_append]; omega
        rw [List.length_append] at hl
        show (encI l).length ≤ textMax
        omega)
    rw [h1]
    dsimp only
    rw [ihr lists ho2 hd2 hl2]
/-- What is written is read back. -/
theorem dec_enc {y : Its.One} (h : (encS y).2 = 0) : decS (encS y).1 = .ok y := by
  unfold encS at h ⊢
  split at h
  · rename_i ho
    rw [if_pos ho]
    split at h
    · rename_i hd
      rw [if_pos hd]
      split at h
      · rename_i hl
        rw [if_pos hl]
        unfold decS
        have hs : (⟨(encOne y).toArray⟩ : ByteArray).size = (encOne y).length := by show (encOne y).toArray.size = _; simp
        rw [if_neg (by rw [hs]; omega)]
        have h1 := rd1_enc (lists := 0) (y := y) (rest := []) ho (by omega) (by simpa using hl) (fun h2 => by
          obtain ⟨k, n, t, l⟩ := y
          have h2' : k = 2 := h2
          subst h2'
          unfold deepOne at hd
          rw [if_pos rfl] at hd
          refine rd_enc l 1 ?_ (by dsimp only at hd; omega) ?_
          · unfold okOne Its.one at ho
            simp [okI] at ho
            exact ho.1
          · have : (encI l).length ≤ (encOne (2, n, t, l)).length := by unfold encOne bodyOne; simp only [List.length_cons, List.length_append]; omega
            show (encI l).length ≤ textMax
            omega)
        rw [List.append_nil] at h1
        simp [h1]
      · cases h
    · cases h
  · cases h
end Go.Proofs.YtjhlddlocpkhkaaGreat

namespace Go.Proofs.YtjhlddlocpkhkaaGreat
open Go.RowKit
set_option maxRecDepth 100000
set_option linter.unusedVariables false
set_option maxHeartbeats 4000000
/-- A count: scope, period, count. -/
abbrev Uz := ByteArray × Int × Int
def cellsU : List Uz → List Value
  | [] => []
  | (s, p, c) :: r => .string s :: .int .i64 p :: .int .i64 c :: cellsU r
theorem cellsU_get {us : List Uz} {i : Nat} {s : ByteArray} {p c : Int} (h : us[i]? = some (s, p, c)) : (cellsU us)[i * 3]? = some (.string s) ∧ (cellsU us)[i * 3 + 1]? = some (.int .i64 p) ∧ (cellsU us)[i * 3 + 2]? = some (.int .i64 c) := by
  induction us generalizing i with
  | nil => simp at h
  | cons x r ih =>
    obtain ⟨s', p', c'⟩ := x
    cases i with
    | zero =>
      simp only [List.getElem?_cons_zero, Option.some.injEq, Prod.mk.injEq] at h
      obtain ⟨rfl, rfl, rfl⟩ := h
      exact ⟨rfl, rfl, rfl⟩
    | succ i =>
      simp only [List.getElem?_cons_succ] at h
      obtain ⟨a, b, d⟩ := ih h
      have e1 : (i + 1) * 3 = i * 3 + 1 + 1 + 1 := by omega
      rw [e1]
      simp only [cellsU, List.getElem?_cons_succ]
      exact ⟨a, b, d⟩
theorem cellsU_len (us : List Uz) : (cellsU us).length = us.length * 3 := by
  induction us with
  | nil => rfl
  | cons x r ih => obtain ⟨s, p, c⟩ := x; simp only [cellsU, List.length_cons, ih]; omega
/-- A slice of counts. -/
def SlU (w : World) (S : Nat → Prop) (A : Option Addr) (us : List Uz) : Prop := RowC w S A us.length (cellsU us)
theorem SlU.at_ {w : World} {S : Nat → Prop} {A : Option Addr} {us : List Uz} (h : SlU w S A us) {i : Nat} {s : ByteArray} {p c : Int} (hi : us[i]? = some (s, p, c)) :
    ∃ g off, A = some ⟨g, off, none⟩ ∧ S g ∧ w.cell? ⟨g, off + i * 3, none⟩ = some (.string s) ∧ w.cell? ⟨g, off + i * 3 + 1, none⟩ = some (.int .i64 p) ∧ w.cell? ⟨g, off + i * 3 + 2, none⟩ = some (.int .i64 c) := by
  obtain ⟨g, off, e, hg, hc⟩ := h (Nat.lt_of_le_of_lt (Nat.zero_le _) (List.getElem?_eq_some_iff.1 hi).1)
  obtain ⟨a, b, d⟩ := cellsU_get hi
  exact ⟨g, off, e, hg, hc _ _ a, hc _ _ b, hc _ _ d⟩
def isU (sc : ByteArray) (z : Int) (u : Uz) : Bool := u.1.toList == sc.toList && u.2.1 == z
theorem find_1 (s : ByteArray) (p c : Int) (sc : ByteArray) (z : Int) (b1 b2 : Nat) (w : World) (h1 : w.cell? ⟨b1, 0, none⟩ = some (.string sc)) (h2 : w.cell? ⟨b2, 0, none⟩ = some (.int .i64 z)) (l1 : b1 < w.heap.size) (l2 : b2 < w.heap.size) :
    Calls Tryz.prog 106 #[.agg #[.string s, .int .i64 p, .int .i64 c], .pointer (some ⟨b1, 0, none⟩), .pointer (some ⟨b2, 0, none⟩)] w fun e w' => e = .returned (.bool (isU sc z (s, p, c))) ∧ Below w.heap.size w w' := by
  have k1 : ¬ w.heap.size = b1 := by omega
  have k2 : ¬ w.heap.size = b2 := by omega
  have k3 : ¬ b1 = w.heap.size := by omega
  have k4 : ¬ b2 = w.heap.size := by omega
  unfold isU
  dsimp only
  go_enter Tryz.func106, Tryz.ntmps106
  cases hs : s.toList == sc.toList
  · go_wp2_with fail
    go_ret
    exact ⟨by simp, (Below.refl _ _).alloc (Nat.le_refl _) _⟩
  · go_wp2_with fail
    go_ret
    exact ⟨by simp, (Below.refl _ _).alloc (Nat.le_refl _) _⟩
/-- The index of the first count that is meant, or -1. -/
def idxU (f : Uz → Bool) : List Uz → Nat → Int
  | [], _ => -1
  | x :: r, k => if f x = true then (k : Int) else idxU f r (k + 1)
theorem drop_at {us : List Uz} {k : Nat} {x : Uz} (h : us[k]? = some x) : us.drop k = x :: us.drop (k + 1) := by
  obtain ⟨h1, h2⟩ := List.getElem?_eq_some_iff.1 h
  rw [List.drop_eq_getElem_cons h1, h2]
structure FdAt (w : World) (S : Nat → Prop) (A : Option Addr) (us : List Uz) (sc : ByteArray) (z : Int) (b1 b2 : Nat) (wr : World) : Prop where
  src : SlU wr S A us
  c1 : wr.cell? ⟨b1, 0, none⟩ = some (.string sc)
  c2 : wr.cell? ⟨b2, 0, none⟩ = some (.int .i64 z)
  bel : Below w.heap.size w wr
theorem FdAt.next {w wr w' : World} {S : Nat → Prop} {A : Option Addr} {us : List Uz} {sc : ByteArray} {z : Int} {b1 b2 : Nat} (h : FdAt w S A us sc z b1 b2 wr) (hS : ∀ g, S g → g < w.heap.size) (l1 : b1 < w.heap.size) (l2 : b2 < w.heap.size) (hb : Below wr.heap.size wr w') : FdAt w S A us sc z b1 b2 w' :=
  ⟨RowC.keep h.src (fun p hp => hb.cell (Nat.lt_of_lt_of_le (hS _ hp) h.bel.size)), (hb.cell (p := ⟨b1, 0, none⟩) (Nat.lt_of_lt_of_le l1 h.bel.size)).trans h.c1, (hb.cell (p := ⟨b2, 0, none⟩) (Nat.lt_of_lt_of_le l2 h.bel.size)).trans h.c2, below2 h.bel hb⟩
theorem index_U (us : List Uz) (A : Option Addr) (n c : Nat) (S : Nat → Prop) (sc : ByteArray) (z : Int) (b1 b2 : Nat) (w : World) (hn : us.length = n) (hm : n ≤ 100000) (h : SlU w S A us) (hS : ∀ g, S g → g < w.heap.size) (h1 : w.cell? ⟨b1, 0, none⟩ = some (.string sc)) (h2 : w.cell? ⟨b2, 0, none⟩ = some (.int .i64 z)) (l1 : b1 < w.heap.size) (l2 : b2 < w.heap.size) :
    Calls Tryz.prog 105 #[.slice A n c, .func (.func 106) #[] #[.pointer (some ⟨b1, 0, none⟩), .pointer (some ⟨b2, 0, none⟩)]] w fun e w' => e = .returned (.int .i64 (idxU (isU sc z) us 0)) ∧ Below w.heap.size w w' := by
  have HL := Lib.hid (And.intro hS (And.intro l1 (And.intro l2 hn)))
  have HF := Lib.hid (show FdAt w S A us sc z b1 b2 w from ⟨h, h1, h2, Below.refl _ _⟩)
  obtain ⟨R, hR⟩ : ∃ R, idxU (isU sc z) us 0 = R := ⟨_, rfl⟩
  have HR := Lib.hid hR
  rw [hR]
  clear h hS h1 h2 l1 l2 hn hR
  go_enter Tryz.func105, Tryz.ntmps105
  go_wp2_with fail
  go_loopw [8] (fun v wr => ∃ k : Nat, k ≤ n ∧ v = .int .i64 k ∧ idxU (isU sc z) (us.drop k) k = R ∧ FdAt w S A us sc z b1 b2 wr) (fun v _ => n - (intOf v).toNat)
  case atStart => exact ⟨0, by omega, rfl, HR.out, HF.out⟩
  case round =>
    obtain ⟨k, hk, rfl, hx, hf⟩ := hrel
    have HX := Lib.hid hx
    have HFD := Lib.hid hf
    clear hx hf
    by_cases hlt : k < n
    · obtain ⟨⟨s, p, q⟩, hu⟩ : ∃ u, us[k]? = some u := ⟨us[k]'(by rw [HL.out.2.2.2]; exact hlt), List.getElem?_eq_getElem _⟩
      obtain ⟨g, off, rfl, hsg, y0, y1, y2⟩ := HFD.out.src.at_ hu
      have HD := Lib.hid (drop_at hu)
      have HC := Lib.hid (find_1 s p q sc z b1 b2 wr HFD.out.c1 HFD.out.c2 (Nat.lt_of_lt_of_le HL.out.2.1 HFD.out.bel.size) (Nat.lt_of_lt_of_le HL.out.2.2.1 HFD.out.bel.size))
      obtain ⟨b, hb⟩ : ∃ b, isU sc z (s, p, q) = b := ⟨_, rfl⟩
      rw [hb] at HC
      have HB := Lib.hid hb
      have HLT := Lib.hid hlt
      have hil : (k : Int) < (n : Int) := by omega
      clear hu hsg hb hlt
      cases b
      · have hnx : idxU (isU sc z) (us.drop (k + 1)) (k + 1) = R := by
          have := HX.out
          rw [HD.out] at this
          simp only [idxU, HB.out] at this
          simpa using this
        have HNX := Lib.hid hnx
        clear hnx
        go_wp2_with (go_at_call 106; (with_reducible refine HC.out.mono ?_); rintro e w5 ⟨rfl, hb5⟩; have H5 := Lib.hid (HFD.out.next HL.out.1 HL.out.2.1 HL.out.2.2.1 hb5); clear hb5)
        go_roundw
        case rel => exact ⟨k + 1, HLT.out, by go_num, HNX.out, H5.out⟩
        case measure => have := HLT.out; simp only [intOf]; omega
      · have hkr : (k : Int) = R := by
          have := HX.out
          rw [HD.out] at this
          simp only [idxU, HB.out] at this
          simpa using this
        have HKR := Lib.hid hkr
        clear hkr
        go_wp2_with (go_at_call 106; (with_reducible refine HC.out.mono ?_); rintro e w5 ⟨rfl, hb5⟩; have H5 := Lib.hid (HFD.out.next HL.out.1 HL.out.2.1 HL.out.2.2.1 hb5); clear hb5)
        go_ret
        exact ⟨by rw [← HKR.out]; rfl, H5.out.bel⟩
    · obtain rfl : k = n := by omega
      have hr1 : R = -1 := by
        have := HX.out
        rw [List.drop_eq_nil_of_le (by rw [HL.out.2.2.2]; exact Nat.le_refl _)] at this
        exact this.symm
      have HR1 := Lib.hid hr1
      clear hr1
      go_wp2_with fail
      go_ret
      exact ⟨by rw [HR1.out]; rfl, HFD.out.bel⟩
theorem wal_find (us : List Uz) (A : Option Addr) (n c : Nat) (S : Nat → Prop) (sec : ByteArray) (Aa Ah : Option Addr) (na ca nh ch : Nat) (sc : ByteArray) (z : Int) (w : World) (hn : us.length = n) (hm : n ≤ 100000) (h : SlU w S A us) (hS : ∀ g, S g → g < w.heap.size) :
    Calls Tryz.prog 68 #[.agg #[.string sec, .slice Aa na ca, .slice Ah nh ch, .slice A n c], .string sc, .int .i64 z] w fun e w' => e = .returned (.int .i64 (idxU (isU sc z) us 0)) ∧ Below w.heap.size w w' := by
  obtain ⟨W, hW⟩ : ∃ W, ((w.alloc (.cells #[.string sec, .slice Aa na ca, .slice Ah nh ch, .slice A n c] 27)).alloc (.cells #[.string sc] 9)).alloc (.cells #[.int .i64 z] 3) = W := ⟨_, rfl⟩
  have hbw : Below w.heap.size w W := by rw [← hW]; exact (((Below.refl w.heap.size w).alloc (Nat.le_refl _) _).alloc (by simp) _).alloc (by simp; omega) _
  have hsz : W.heap.size = w.heap.size + 3 := by rw [← hW]; simp
  have h1 : W.cell? ⟨w.heap.size + 1, 0, none⟩ = some (.string sc) := by rw [← hW]; simp [go_sem]
  have h2 : W.cell? ⟨w.heap.size + 1 + 1, 0, none⟩ = some (.int .i64 z) := by rw [← hW]; simp [go_sem]
  have HI := Lib.hid (index_U us A n c S sc z (w.heap.size + 1) (w.heap.size + 1 + 1) W hn hm (RowC.keep h (fun p hp => hbw.cell (hS _ hp))) (fun g hg => Nat.lt_of_lt_of_le (hS g hg) hbw.size) h1 h2 (by omega) (by omega))
  have HB := Lib.hid hbw
  rw [← hW] at HI HB
  clear hbw hsz h1 h2 hW h hS hn hm
  go_enter Tryz.func68, Tryz.ntmps68
  go_wp2_with (go_at_call 105; (with_reducible refine HI.out.mono ?_); rintro e w5 ⟨rfl, hb5⟩)
  go_ret
  exact ⟨rfl, below2 HB.out hb5⟩
/-- The count of the first that is meant, or 0. -/
def cntU (f : Uz → Bool) (us : List Uz) : Int := match us.find? f with | some x => x.2.2 | none => 0
theorem idxU_none {f : Uz → Bool} {us : List Uz} (h : us.find? f = none) (k : Nat) : idxU f us k = -1 := by
  induction us generalizing k with
  | nil => rfl
  | cons x r ih =>
    rw [List.find?_cons] at h
    unfold idxU
    cases hx : f x
    · rw [hx] at h; simpa using ih h (k + 1)
    · rw [hx] at h; cases h
theorem idxU_some {f : Uz → Bool} {us : List Uz} {x : Uz} (h : us.find? f = some x) (k : Nat) : ∃ i : Nat, idxU f us k = ((k + i : Nat) : Int) ∧ us[i]? = some x := by
  induction us generalizing k with
  | nil => cases h
  | cons y r ih =>
    rw [List.find?_cons] at h
    unfold idxU
    cases hy : f y
    · rw [hy] at h
      obtain ⟨i, h1, h2⟩ := ih h (k + 1)
      exact ⟨i + 1, by simp only [Bool.false_eq_true, if_false]; rw [h1]; congr 1; omega, by simpa using h2⟩
    · rw [hy] at h
      injection h with h
      subst h
      exact ⟨0, by simp, rfl⟩
theorem wal_count (us : List Uz) (A : Option Addr) (n c : Nat) (S : Nat → Prop) (sec : ByteArray) (Aa Ah : Option Addr) (na ca nh ch : Nat) (sc : ByteArray) (z : Int) (w : World) (hn : us.length = n) (hm : n ≤ 100000) (h : SlU w S A us) (hS : ∀ g, S g → g < w.heap.size) :
    Calls Tryz.prog 51 #[.agg #[.string sec, .slice Aa na ca, .slice Ah nh ch, .slice A n c], .string sc, .int .i64 z] w fun e w' => e = .returned (.int .i64 (cntU (isU sc z) us)) ∧ Below w.heap.size w w' := by
  have HF := Lib.hid (fun W (hb : Below w.heap.size w W) => wal_find us A n c S sec Aa Ah na ca nh ch sc z W hn hm (RowC.keep h (fun p hp => hb.cell (hS _ hp))) (fun g hg => Nat.lt_of_lt_of_le (hS g hg) hb.size))
  have HBX := Lib.hid (And.intro (heap_alloc_new w (.cells #[.string sec, .slice Aa na ca, .slice Ah nh ch, .slice A n c] 27)) ((Below.refl w.heap.size w).alloc (Nat.le_refl _) (.cells #[.string sec, .slice Aa na ca, .slice Ah nh ch, .slice A n c] 27)))
  have hz : w.heap.size < (w.alloc (.cells #[.string sec, .slice Aa na ca, .slice Ah nh ch, .slice A n c] 27)).heap.size := by simp
  have HZ := Lib.hid hz
  clear hz
  cases hf : us.find? (isU sc z) with
  | none =>
    have hc : cntU (isU sc z) us = 0 := by unfold cntU; rw [hf]
    rw [idxU_none hf 0] at HF
    rw [hc]
    clear hc hf h hS hn hm
    go_enter Tryz.func51, Tryz.ntmps51
    go_wp2_with (go_at_call 68; (with_reducible refine (HF.out _ HBX.out.2).mono ?_); rintro e w5 ⟨rfl, hb5⟩; have HB5 := Lib.hid (below2 HBX.out.2 hb5); clear hb5)
    go_ret
    exact ⟨rfl, HB5.out⟩
  | some x =>
    obtain ⟨i, hi1, hi2⟩ := idxU_some hf 0
    rw [Nat.zero_add] at hi1
    obtain ⟨s, p, q⟩ := x
    have hc : cntU (isU sc z) us = q := by unfold cntU; rw [hf]
    have hin : i < n := by rw [← hn]; exact (List.getElem?_eq_some_iff.1 hi2).1
    obtain ⟨g, off, rfl, hsg, y0, y1, y2⟩ := SlU.at_ h hi2
    have hgw := hS g hsg
    have HY := Lib.hid (And.intro y2 hgw)
    have k1 : (i : Int) < (n : Int) := by omega
    rw [hi1] at HF
    rw [hc]
    clear hc hf h hS hn hm hi1 hi2 y0 y1 y2 hsg hgw
    go_enter Tryz.func51, Tryz.ntmps51
    go_wp2_with (go_at_call 68; (with_reducible refine (HF.out _ HBX.out.2).mono ?_); rintro e w5 ⟨rfl, hb5⟩; have HB5 := Lib.hid (below2 HBX.out.2 hb5); have x3 := cell_of_row w5 _ 3 _ _ _ ((hb5.block _ HZ.out).trans HBX.out.1); have y2 := (HB5.out.cell (p := ⟨g, off + i * 3 + 2, none⟩) HY.out.2).trans HY.out.1; clear hb5)
    go_ret
    exact ⟨rfl, HB5.out⟩
theorem canonical_1 (s : ByteArray) (w : World) : Calls Tryz.prog 89 #[.string s] w fun e w' => e = .returned (.bool (!valid s)) ∧ w = w' := by
  go_enter Tryz.func89, Tryz.ntmps89
  go_wp2_with (go_at_call 90; refine (natural_Valid _ _).mono ?_; rintro e w' ⟨rfl, rfl⟩)
  go_ret
  exact ⟨rfl, rfl⟩
theorem ls_all_not {ls : List ByteArray} {p : ByteArray → Bool} {k : Nat} (hk : k < ls.length) (h : p (ls.getD k ByteArray.empty) = false) : ls.all p = false := by
  rw [List.all_eq_false]; exact ⟨ls[k], List.getElem_mem hk, by rw [sgetD_lt hk] at h; simp [h]⟩
theorem ls_all_of {ls : List ByteArray} {p : ByteArray → Bool} (h : ∀ j, j < ls.length → p (ls.getD j ByteArray.empty) = true) : ls.all p = true := by
  rw [List.all_eq_true]
  intro x hx
  obtain ⟨j, hj, rfl⟩ := List.getElem_of_mem hx
  have := h j hj
  rw [sgetD_lt hj] at this
  exact this
theorem index_valid (ls : List ByteArray) (A : Option Addr) (n c b : Nat) (w : World) (hn : ls.length = n) (hm : n ≤ 100000) (h : SLs w b A ls) :
    Calls Tryz.prog 122 #[.slice A n c, .func (.func 89) #[] #[]] w fun e w' => (∃ z : Int, e = .returned (.int .i64 z) ∧ decide (0 ≤ z) = !(ls.all valid)) ∧ w = w' := by
  have HN := Lib.hid hn
  have HS := Lib.hid h
  clear hn h
  go_enter Tryz.func122, Tryz.ntmps122
  go_wp2
  go_loop [8] (fun v => ∃ k : Nat, k ≤ n ∧ v = .int .i64 k ∧ ∀ j, j < k → valid (ls.getD j ByteArray.empty) = true) (fun v => n - (intOf v).toNat)
  case atStart => exact ⟨0, by omega, rfl, fun j h => absurd h (by omega)⟩
  case round =>
    obtain ⟨k, hk, rfl, hall⟩ := hrel
    have HA := Lib.hid hall
    clear hall
    by_cases hlt : k < n
    · obtain ⟨ad, rfl, hc⟩ := HS.out.at_ (k := k) (by rw [HN.out]; exact hlt)
      obtain ⟨s, hs⟩ : ∃ s, ls.getD k ByteArray.empty = s := ⟨_, rfl⟩
      rw [hs] at hc
      have HSS := Lib.hid hs
      clear hs
      cases hv : valid s
      · have HF : Hid (ls.all valid = false) := Lib.hid (ls_all_not (k := k) (by rw [HN.out]; exact hlt) (by rw [HSS.out]; exact hv))
        have hck := canonical_1 s
        rw [hv] at hck
        have HCK := Lib.hid hck
        clear hck hv
        go_wp2_with (go_at_call 89; refine (HCK.out _).mono ?_; rintro e w' ⟨rfl, rfl⟩)
        go_ret
        refine ⟨⟨(k : Int), rfl, ?_⟩, rfl⟩
        rw [HF.out]
        simp
      · have HV := Lib.hid hv
        clear hv
        have hck := canonical_1 s
        rw [HV.out] at hck
        have HCK := Lib.hid hck
        clear hck
        go_wp2_with (go_at_call 89; refine (HCK.out _).mono ?_; rintro e w' ⟨rfl, rfl⟩)
        go_round
        case rel => exact ⟨k + 1, by omega, by go_num, fun j hj => by
          by_cases e : j = k
          · subst e; rw [HSS.out]; exact HV.out
          · exact HA.out j (by omega)⟩
        case measure => simp [intOf]; omega
    · obtain rfl : k = n := by omega
      have HF : Hid (ls.all valid = true) := Lib.hid (ls_all_of (fun j hj => HA.out j (by rw [HN.out] at hj; exact hj)))
      go_wp2
      go_ret
      refine ⟨⟨-1, rfl, ?_⟩, rfl⟩
      rw [HF.out]
      rfl
theorem contains_valid (ls : List ByteArray) (A : Option Addr) (n c b : Nat) (w : World) (hn : ls.length = n) (hm : n ≤ 100000) (h : SLs w b A ls) :
    Calls Tryz.prog 88 #[.slice A n c, .func (.func 89) #[] #[]] w fun e w' => e = .returned (.bool (!(ls.all valid))) ∧ w = w' := by
  have H := Lib.hid (index_valid ls A n c b w hn hm h)
  clear h
  go_enter Tryz.func88, Tryz.ntmps88
  go_wp2_with (go_at_call 122; refine H.out.mono ?_; rintro e w' ⟨⟨z, rfl, hz⟩, rfl⟩; have HZ := Lib.hid hz; clear hz)
  go_ret
  exact ⟨ret_bool HZ.out, rfl⟩
theorem wal_canonical (ls : List ByteArray) (A : Option Addr) (n c b : Nat) (w : World) (hn : ls.length = n) (hm : n ≤ 100000) (h : SLs w b A ls) :
    Calls Tryz.prog 55 #[.slice A n c] w fun e w' => e = .returned (.bool (ls.all valid)) ∧ w = w' := by
  have HC := Lib.hid (contains_valid ls A n c b w hn hm h)
  clear h hn hm
  go_enter Tryz.func55, Tryz.ntmps55
  go_wp2_with (go_at_call 88; (with_reducible refine HC.out.mono ?_); rintro e w5 ⟨rfl, rfl⟩)
  go_ret
  exact ⟨by simp, rfl⟩
theorem cellsU_one (us : List Uz) : ∀ u ∈ cellsU us, u.oneCell' = true := by
  induction us with
  | nil => intro u hu; cases hu
  | cons x r ih =>
    obtain ⟨s, p, c⟩ := x
    intro u hu
    simp only [cellsU, List.mem_cons] at hu
    rcases hu with rfl | rfl | rfl | hu
    · rfl
    · rfl
    · rfl
    · exact ih u hu
end Go.Proofs.YtjhlddlocpkhkaaGreat
