/- Encoding, plain: what is written is read back. -/
import Derived.Test.YtlheedcnmfekoaaWa
namespace Go.Proofs.Ytlheedcnmfekoaa
open Go.RowKit
set_option maxRecDepth 100000
set_option linter.unusedVariables false

theorem sz_len (f : Nat) : ∀ (k n f' g : Nat) (rest : List UInt8), n < 128 ^ (f + 1) → f + 1 ≤ f' → f + 1 ≤ g → (0 < k → 0 < n) → szS f' k (lenF g n ++ rest) = some (n, rest) := by
  have base : ∀ (k n f' g : Nat) (rest : List UInt8), n < 128 → 1 ≤ f' → 1 ≤ g → (0 < k → 0 < n) → szS f' k (lenF g n ++ rest) = some (n, rest) := by
    intro k n f' g rest hn hf hg hk
    obtain ⟨f'', rfl⟩ : ∃ x, f' = x + 1 := ⟨f' - 1, by omega⟩
    obtain ⟨g', rfl⟩ : ∃ x, g = x + 1 := ⟨g - 1, by omega⟩
    have hb : (UInt8.ofNat n).toNat = n := by rw [UInt8.toNat_ofNat']; omega
    unfold lenF
    rw [if_pos hn]
    show szS (f'' + 1) k (UInt8.ofNat n :: rest) = _
    unfold szS
    rw [hb, if_neg (by omega), if_pos hn]
  induction f with
  | zero => exact fun k n f' g rest hn hf hg hk => base k n f' g rest (by simpa using hn) hf hg hk
  | succ f ih =>
    intro k n f' g rest hn hf hg hk
    by_cases h : n < 128
    · exact base k n f' g rest h (by omega) (by omega) hk
    · obtain ⟨f'', rfl⟩ : ∃ x, f' = x + 1 := ⟨f' - 1, by omega⟩
      obtain ⟨g', rfl⟩ : ∃ x, g = x + 1 := ⟨g - 1, by omega⟩
      have hb : (UInt8.ofNat (n % 128 + 128)).toNat = n % 128 + 128 := by rw [UInt8.toNat_ofNat']; omega
      have hd : n / 128 < 128 ^ (f + 1) := by
        rw [Nat.div_lt_iff_lt_mul (by decide)]
        have : 128 ^ (f + 1 + 1) = 128 ^ (f + 1) * 128 := Nat.pow_succ ..
        omega
      have he := ih (k + 1) (n / 128) f'' g' rest hd (by omega) (by omega) (by intro; omega)
      unfold lenF
      rw [if_neg h]
      show szS (f'' + 1) k (UInt8.ofNat (n % 128 + 128) :: (lenF g' (n / 128) ++ rest)) = _
      unfold szS
      rw [hb, if_neg (by omega), if_neg (by omega), he]
      dsimp only
      congr 2
      omega
theorem size0 {s : ByteArray} (h : s.size = 0) : s = E0 := by
  have h1 : s.data.toList = [] := List.eq_nil_of_length_eq_zero (by rw [← h]; simp)
  have h2 : s.data = #[] := by simpa using h1
  have h3 : (E0 : ByteArray).data = #[] := by decide
  cases s
  have : (E0 : ByteArray) = ⟨#[]⟩ := by decide
  rw [this]
  simpa using h2
theorem len0 {l : Its} (h : l.len = 0) : l = .nil := by
  cases l with
  | nil => rfl
  | cons => simp [Its.len] at h
theorem E0_data : (E0 : ByteArray).data.toList = [] := by decide
/-- The first item of what is written. -/
theorem rd1_enc {lists : Nat} {y : Its.One} {rest : List UInt8} (ho : okOne y = true) (hd : deepOne y + lists ≤ deepMax) (hl : (encOne y ++ rest).length ≤ textMax)
    (ih : y.1 = 2 → rdA (lists + 1) (encI y.2.2.2) = .ok y.2.2.2) : rdO lists (encOne y ++ rest) = .ok (y, rest) := by
  obtain ⟨k, n, t, l⟩ := y
  unfold okOne Its.one at ho
  simp only [okI, Bool.and_true] at ho
  unfold deepOne at hd
  dsimp only at hd ih
  have hbl : (bodyOne (k, n, t, l)).length ≤ textMax := by unfold encOne at hl; simp only [List.length_append, List.length_cons] at hl; omega
  have hsz : szS 5 0 (lenB (bodyOne (k, n, t, l)).length ++ (bodyOne (k, n, t, l) ++ rest)) = some ((bodyOne (k, n, t, l)).length, bodyOne (k, n, t, l) ++ rest) :=
    sz_len 4 0 _ 5 10 _ (by unfold textMax at hbl; omega) (by omega) (by omega) (by omega)
  have he : encOne (k, n, t, l) ++ rest = UInt8.ofNat k.toNat :: (lenB (bodyOne (k, n, t, l)).length ++ (bodyOne (k, n, t, l) ++ rest)) := by unfold encOne; simp
  rw [he]
  unfold rdO rd1
  have hlt : ¬ (bodyOne (k, n, t, l) ++ rest).length < (bodyOne (k, n, t, l)).length := by rw [List.length_append]; omega
  have ht : (bodyOne (k, n, t, l) ++ rest).take (bodyOne (k, n, t, l)).length = bodyOne (k, n, t, l) := by simp
  have hdr : (bodyOne (k, n, t, l) ++ rest).drop (bodyOne (k, n, t, l)).length = rest := by simp
  dsimp only
  rw [hsz]
  dsimp only
  rw [if_neg hlt, ht, hdr]
  by_cases k0 : k = 0
  · subst k0
    rw [if_pos rfl] at ho
    simp only [Bool.and_eq_true, decide_eq_true_eq] at ho
    obtain ⟨hv, h1, h2⟩ := ho
    rw [size0 h1, len0 h2]
    have hbody : bodyOne (0, n, E0, .nil) = n.data.toList := by unfold bodyOne; simp [E0_data, encI]
    rw [hbody]
    have hn : (⟨n.data.toList.toArray⟩ : ByteArray) = n := by simp
    rw [hn]
    simp [hv]
  · rw [if_neg k0] at ho
    by_cases k1 : k = 1
    · subst k1
      rw [if_pos rfl] at ho
      simp only [Bool.and_eq_true, decide_eq_true_eq] at ho
      rw [size0 ho.1, len0 ho.2]
      have hbody : bodyOne (1, E0, t, .nil) = t.data.toList := by unfold bodyOne; simp [E0_data, encI]
      rw [hbody]
      have hn : (⟨t.data.toList.toArray⟩ : ByteArray) = t := by simp
      rw [hn]
      simp
    · rw [if_neg k1] at ho
      by_cases k2 : k = 2
      · subst k2
        rw [if_pos rfl] at ho hd
        simp only [Bool.and_eq_true, decide_eq_true_eq] at ho
        obtain ⟨hv, h1, h2⟩ := ho
        rw [size0 h1, size0 h2]
        have hbody : bodyOne (2, E0, E0, l) = encI l := by unfold bodyOne; simp [E0_data]
        rw [hbody, ih rfl]
        have : lists ≠ deepMax := by omega
        simp [this]
      · rw [if_neg k2] at ho
        cases ho
theorem rd_enc (l : Its) : ∀ lists, okI l = true → deepI l + lists ≤ deepMax → (encI l).length ≤ textMax → rdA lists (encI l) = .ok l := by
  induction l with
  | nil => exact fun _ _ _ _ => rfl
  | cons k n t l r ihl ihr =>
    intro lists ho hd hl
    have ho1 : okOne (k, n, t, l) = true := by unfold okOne Its.one; simp only [okI, Bool.and_true]; simp only [okI, Bool.and_eq_true] at ho; exact ho.1
    have ho2 : okI r = true := by simp only [okI, Bool.and_eq_true] at ho; exact ho.2
    have hd1 : deepOne (k, n, t, l) + lists ≤ deepMax := by unfold deepOne; simp only [deepI] at hd; dsimp only; omega
    have hd2 : deepI r + lists ≤ deepMax := by simp only [deepI] at hd; omega
    have he : encI (.cons k n t l r) = encOne (k, n, t, l) ++ encI r := rfl
    rw [he] at hl ⊢
    have hl2 : (encI r).length ≤ textMax := by rw [List.length_append] at hl; omega
    rw [rdA_cons lists (by unfold encOne; simp)]
    have h1 := rd1_enc (lists := lists) (rest := encI r) ho1 hd1 hl (fun h2 => by
      have h2' : k = 2 := h2
      subst h2'
      unfold deepOne at hd1
      rw [if_pos rfl] at hd1
      refine ihl (lists + 1) ?_ ?_ ?_
      · unfold okOne Its.one at ho1
        simp [okI] at ho1
        exact ho1.1
      · show deepI l + (lists + 1) ≤ deepMax
        dsimp only at hd1
        omega
      · have : (encI l).length ≤ (encOne (2, n, t, l)).length := by unfold encOne bodyOne; simp only [List.length_cons, List.length_append]; omega
        rw [List.length_append] at hl
        show (encI l).length ≤ textMax
        omega)
    rw [h1]
    dsimp only
    rw [ihr lists ho2 hd2 hl2]
/-- What is written is read back. -/
theorem dec_enc {y : Its.One} (h : (encS y).2 = 0) : decS (encS y).1 = .ok y := by
  unfold encS at h ⊢
  split at h
  · rename_i ho
    rw [if_pos ho]
    split at h
    · rename_i hd
      rw [if_pos hd]
      split at h
      · rename_i hl
        rw [if_pos hl]
        unfold decS
        have hs : (⟨(encOne y).toArray⟩ : ByteArray).size = (encOne y).length := by show (encOne y).toArray.size = _; simp
        rw [if_neg (by rw [hs]; omega)]
        have h1 := rd1_enc (lists := 0) (y := y) (rest := []) ho (by omega) (by simpa using hl) (fun h2 => by
          obtain ⟨k, n, t, l⟩ := y
          have h2' : k = 2 := h2
          subst h2'
          unfold deepOne at hd
          rw [if_pos rfl] at hd
          refine rd_enc l 1 ?_ (by dsimp only at hd; omega) ?_
          · unfold okOne Its.one at ho
            simp [okI] at ho
            exact ho.1
          · have : (encI l).length ≤ (encOne (2, n, t, l)).length := by unfold encOne bodyOne; simp only [List.length_cons, List.length_append]; omega
            show (encI l).length ≤ textMax
            omega)
        rw [List.append_nil] at h1
        simp [h1]
      · cases h
    · cases h
  · cases h

end Go.Proofs.Ytlheedcnmfekoaa
