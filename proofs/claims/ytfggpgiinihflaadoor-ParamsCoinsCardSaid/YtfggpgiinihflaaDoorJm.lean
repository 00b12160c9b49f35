/- Plain law: the symbol of Jacobi is multiplicative. Gauss's count (for every odd modulus), Eisenstein's sum, the law of reciprocity. No program in sight. -/
import Derived.Test.YtfggpgiinihflaaDoorJac
namespace Go.Proofs.YtfggpgiinihflaaDoor

/- Sums over lists. -/
def sumN (l : List Nat) : Nat := l.foldr (· + ·) 0
theorem sumN_nil : sumN [] = 0 := rfl
theorem sumN_cons (a : Nat) (l : List Nat) : sumN (a :: l) = a + sumN l := rfl
theorem sumN_append (l m : List Nat) : sumN (l ++ m) = sumN l + sumN m := by
  induction l with
  | nil => simp [sumN]
  | cons a l ih => rw [List.cons_append, sumN_cons, sumN_cons, ih]; omega
theorem sumN_perm {l m : List Nat} (h : l.Perm m) : sumN l = sumN m := by
  induction h with
  | nil => rfl
  | cons a _ ih => rw [sumN_cons, sumN_cons, ih]
  | swap a b l => simp only [sumN_cons]; omega
  | trans _ _ h1 h2 => rw [h1, h2]
theorem sumN_map_add (l : List Nat) (f g : Nat → Nat) : sumN (l.map fun k => f k + g k) = sumN (l.map f) + sumN (l.map g) := by
  induction l with
  | nil => rfl
  | cons a l ih => simp only [List.map_cons, sumN_cons, ih]; omega
theorem sumN_map_mul (l : List Nat) (c : Nat) (f : Nat → Nat) : sumN (l.map fun k => c * f k) = c * sumN (l.map f) := by
  induction l with
  | nil => rfl
  | cons a l ih => simp only [List.map_cons, sumN_cons, ih, Nat.mul_add]
theorem sumN_map_congr {l : List Nat} {f g : Nat → Nat} (h : ∀ k, k ∈ l → f k = g k) : sumN (l.map f) = sumN (l.map g) := by
  rw [List.map_congr_left h]
theorem sumN_map_mod {l : List Nat} {f g : Nat → Nat} (h : ∀ k, k ∈ l → f k % 2 = g k % 2) : sumN (l.map f) % 2 = sumN (l.map g) % 2 := by
  induction l with
  | nil => rfl
  | cons a l ih =>
    simp only [List.map_cons, sumN_cons]
    have h1 := h a (by simp)
    have h2 := ih fun k hk => h k (by simp [hk])
    omega
theorem sumN_swap (l m : List Nat) (f : Nat → Nat → Nat) : sumN (l.map fun k => sumN (m.map fun j => f k j)) = sumN (m.map fun j => sumN (l.map fun k => f k j)) := by
  induction l with
  | nil =>
    simp only [List.map_nil, sumN_nil]
    induction m with
    | nil => rfl
    | cons a m ih => simp only [List.map_cons, sumN_cons, ← ih]
  | cons a l ih =>
    simp only [List.map_cons, sumN_cons, ih]
    rw [← sumN_map_add]
/- A list without repetition that lies in another one of the same length is its permutation. -/
theorem perm_of_subset : ∀ {l m : List Nat}, l.Nodup → (∀ x, x ∈ l → x ∈ m) → m.length ≤ l.length → l.Perm m
  | [], m, _, _, h => by
    have : m = [] := List.eq_nil_of_length_eq_zero (by simpa using h)
    subst this; exact List.Perm.nil
  | a :: l, m, hn, hs, h => by
    have ha : a ∈ m := hs a (by simp)
    have hp := List.perm_cons_erase ha
    rw [List.nodup_cons] at hn
    refine List.Perm.trans (List.Perm.cons a (perm_of_subset hn.2 (fun x hx => ?_) ?_)) hp.symm
    · have hxm := hs x (by simp [hx])
      have hne : x ≠ a := fun e => hn.1 (e ▸ hx)
      exact (List.mem_erase_of_ne hne).2 hxm
    · rw [List.length_erase_of_mem ha]
      simp at h
      omega

/-- The numbers from 1 to the half of n. -/
def half1 (n : Nat) : List Nat := List.range' 1 (n / 2)
theorem mem_half1 {n k : Nat} : k ∈ half1 n ↔ 1 ≤ k ∧ k ≤ n / 2 := by
  unfold half1; rw [List.mem_range'_1]; omega
theorem half1_nodup (n : Nat) : (half1 n).Nodup := List.nodup_range'
theorem half1_length (n : Nat) : (half1 n).length = n / 2 := by simp [half1]
/-- Whether a multiple lies in the upper half. -/
def big (n a k : Nat) : Nat := if n / 2 < a * k % n then 1 else 0
/-- A multiple, folded into the lower half. -/
def fo (n a k : Nat) : Nat := if n / 2 < a * k % n then n - a * k % n else a * k % n
/-- Gauss's count. -/
def gS (n a : Nat) : Nat := sumN ((half1 n).map (big n a))
section
variable {n a : Nat} (ho : n % 2 = 1) (hg : Nat.Coprime a n)
include ho hg
theorem mul_mod_ne {k : Nat} (h1 : 1 ≤ k) (h2 : k < n) : a * k % n ≠ 0 := by
  intro h
  have hd : n ∣ k := hg.symm.dvd_of_dvd_mul_left (Nat.dvd_of_mod_eq_zero h)
  have := Nat.le_of_dvd (by omega) hd
  omega
theorem fo_mem {k : Nat} (h : k ∈ half1 n) : fo n a k ∈ half1 n := by
  rw [mem_half1] at h ⊢
  have h0 := mul_mod_ne ho hg h.1 (by omega)
  have hl := Nat.mod_lt (a * k) (show 0 < n by omega)
  unfold fo
  split <;> omega
theorem fo_inj {k j : Nat} (hk : k ∈ half1 n) (hj : j ∈ half1 n) (he : fo n a k = fo n a j) : k = j := by
  rw [mem_half1] at hk hj
  have hlk := Nat.mod_lt (a * k) (show 0 < n by omega)
  have hlj := Nat.mod_lt (a * j) (show 0 < n by omega)
  have key : a * k % n = a * j % n ∨ (a * k % n + a * j % n) = n := by
    unfold fo at he
    split at he <;> split at he <;> omega
  rcases key with h | h
  · have aux : ∀ x y, x ≤ y → y ≤ n / 2 → a * x % n = a * y % n → x = y := by
      intro x y hxy hy h
      have hd : n ∣ a * (y - x) := by
        rw [Nat.mul_sub]
        exact Nat.dvd_of_mod_eq_zero (Nat.sub_mod_eq_zero_of_mod_eq h.symm)
      have hd2 : n ∣ y - x := hg.symm.dvd_of_dvd_mul_left hd
      rcases Nat.eq_zero_or_pos (y - x) with h0 | h0
      · omega
      · have := Nat.le_of_dvd h0 hd2; omega
    rcases Nat.le_total k j with hkj | hkj
    · exact aux k j hkj hj.2 h
    · exact (aux j k hkj hk.2 h.symm).symm
  · exfalso
    have hd : n ∣ a * (k + j) := by
      rw [Nat.mul_add]
      apply Nat.dvd_of_mod_eq_zero
      rw [Nat.add_mod, h, Nat.mod_self]
    have hd2 : n ∣ k + j := hg.symm.dvd_of_dvd_mul_left hd
    have := Nat.le_of_dvd (by omega) hd2
    omega
theorem fo_perm : ((half1 n).map (fo n a)).Perm (half1 n) := by
  apply perm_of_subset
  · have : ∀ l : List Nat, l.Nodup → (∀ x, x ∈ l → x ∈ half1 n) → (l.map (fo n a)).Nodup := by
      intro l hl hs
      induction l with
      | nil => exact List.nodup_nil
      | cons b l ih =>
        rw [List.nodup_cons] at hl
        rw [List.map_cons, List.nodup_cons]
        refine ⟨fun hm => ?_, ih hl.2 fun x hx => hs x (by simp [hx])⟩
        obtain ⟨c, hc, he⟩ := List.mem_map.1 hm
        have := fo_inj ho hg (hs c (by simp [hc])) (hs b (by simp)) he
        subst this
        exact hl.1 hc
    exact this _ (half1_nodup n) fun x hx => hx
  · intro x hx
    obtain ⟨k, hk, rfl⟩ := List.mem_map.1 hx
    exact fo_mem ho hg hk
  · simp
end
theorem big_mul {n a b k : Nat} (ho : n % 2 = 1) (ha : Nat.Coprime a n) (hb : Nat.Coprime b n) (hk : k ∈ half1 n) :
    big n (a * b) k % 2 = (big n b k + big n a (fo n b k)) % 2 := by
  have hk' := mem_half1.1 hk
  have hf := fo_mem ho hb hk
  have hf' := mem_half1.1 hf
  have hz := mul_mod_ne ho ha hf'.1 (by omega)
  have e1 : a * b * k % n = a * (b * k % n) % n := by rw [Nat.mul_assoc, Nat.mul_mod, Nat.mul_mod a (b * k % n), Nat.mod_mod]
  have hl := Nat.mod_lt (b * k) (show 0 < n by omega)
  have hl2 := Nat.mod_lt (a * (b * k % n)) (show 0 < n by omega)
  unfold big
  rw [e1]
  unfold fo at hz ⊢
  by_cases h : n / 2 < b * k % n
  · rw [if_pos h] at hz ⊢
    rw [if_pos h]
    generalize b * k % n = r at *
    have e2 : (a * (n - r) % n + a * r % n) % n = 0 := by
      rw [← Nat.add_mod, ← Nat.mul_add, show n - r + r = n by omega, Nat.mul_mod_left]
    have hl3 := Nat.mod_lt (a * (n - r)) (show 0 < n by omega)
    have e3 : a * (n - r) % n + a * r % n = n := by
      have hd := Nat.dvd_of_mod_eq_zero e2
      obtain ⟨c, hc⟩ := hd
      have hc1 : c = 1 := by
        rcases Nat.lt_or_ge c 2 with h2 | h2
        · have : c ≠ 0 := by intro e; subst e; omega
          omega
        · have := Nat.mul_le_mul_left n h2; omega
      subst hc1; omega
    split <;> split <;> omega
  · rw [if_neg h] at hz ⊢
    rw [if_neg h]
    simp
theorem gS_mul {n a b : Nat} (ho : n % 2 = 1) (ha : Nat.Coprime a n) (hb : Nat.Coprime b n) : gS n (a * b) % 2 = (gS n a + gS n b) % 2 := by
  unfold gS
  rw [sumN_map_mod (fun k hk => big_mul ho ha hb hk), sumN_map_add]
  have : sumN ((half1 n).map fun k => big n a (fo n b k)) = sumN ((half1 n).map (big n a)) := by
    have h1 : (half1 n).map (fun k => big n a (fo n b k)) = ((half1 n).map (fo n b)).map (big n a) := by rw [List.map_map]; rfl
    rw [h1]
    exact sumN_perm ((fo_perm ho hb).map _)
  rw [this]
  omega
theorem mod_mul_l (a k n : Nat) : (a % n) * k % n = a * k % n := by rw [Nat.mul_mod, Nat.mod_mod, ← Nat.mul_mod]
theorem gS_mod (n a : Nat) : gS n (a % n) = gS n a := by
  unfold gS
  refine sumN_map_congr fun k _ => ?_
  unfold big
  rw [mod_mul_l]
/-- Eisenstein's sum. -/
def eS (n a : Nat) : Nat := sumN ((half1 n).map fun k => a * k / n)
theorem par_mul {n q : Nat} (h : n % 2 = 1) : n * q % 2 = q % 2 := by rw [Nat.mul_mod, h, Nat.one_mul, Nat.mod_mod]
theorem gS_sum {n a : Nat} (ho : n % 2 = 1) (ha : Nat.Coprime a n) : (a * sumN (half1 n)) % 2 = (eS n a + sumN (half1 n) + gS n a) % 2 := by
  have h1 : a * sumN (half1 n) = sumN ((half1 n).map fun k => a * k) := by
    have := sumN_map_mul (half1 n) a (fun k => k)
    rw [this]; congr 2; simp
  have h2 : sumN ((half1 n).map (fo n a)) = sumN (half1 n) := sumN_perm (fo_perm ho ha)
  rw [h1, ← h2]
  unfold eS gS
  rw [← sumN_map_add, ← sumN_map_add]
  refine sumN_map_mod fun k _ => ?_
  have hd := Nat.div_add_mod (a * k) n
  have hl := Nat.mod_lt (a * k) (show 0 < n by omega)
  have hp := par_mul (q := a * k / n) ho
  unfold fo big
  generalize a * k % n = r at *
  generalize n * (a * k / n) = t at *
  generalize a * k / n = q at *
  generalize a * k = x at *
  split <;> omega
theorem gS_odd {n a : Nat} (ho : n % 2 = 1) (ha : Nat.Coprime a n) (h : a % 2 = 1) : gS n a % 2 = eS n a % 2 := by
  have h1 := gS_sum ho ha
  rw [par_mul h] at h1
  omega
theorem sum_range' (h : Nat) : 2 * sumN (List.range' 1 h) = h * (h + 1) := by
  induction h with
  | zero => rfl
  | succ h ih =>
    rw [List.range'_1_concat, sumN_append, Nat.mul_add, ih]
    simp only [sumN_cons, sumN_nil]
    rw [show 2 * (1 + h + 0) = 2 * (h + 1) by omega, ← Nat.add_mul, Nat.mul_comm]
theorem gS_two {n : Nat} (ho : n % 2 = 1) : gS n 2 % 2 = if n % 8 = 3 ∨ n % 8 = 5 then 1 else 0 := by
  have hc : Nat.Coprime 2 n := by
    unfold Nat.Coprime
    rw [Nat.gcd_rec, ho]; rfl
  have h1 := gS_sum ho hc
  have h2 : eS n 2 = 0 := by
    unfold eS
    have : sumN ((half1 n).map fun k => 2 * k / n) = sumN ((half1 n).map fun _ => 0) := sumN_map_congr fun k hk => by
      rw [mem_half1] at hk
      exact Nat.div_eq_of_lt (by omega)
    rw [this]
    generalize half1 n = l
    induction l with
    | nil => rfl
    | cons a l ih => simp only [List.map_cons, sumN_cons, ih]
  have h3 := sum_range' (n / 2)
  unfold half1 at h1
  rw [h2] at h1
  have h4 : gS n 2 % 2 = sumN (List.range' 1 (n / 2)) % 2 := by omega
  rw [h4]
  generalize sumN (List.range' 1 (n / 2)) = S at *
  obtain ⟨h, hh⟩ : ∃ h, n / 2 = h := ⟨_, rfl⟩
  rw [hh] at h3
  obtain ⟨q, r, hr, rfl⟩ : ∃ q r, r < 4 ∧ h = 4 * q + r := ⟨h / 4, h % 4, by omega, by omega⟩
  have e : (4 * q + r) * (4 * q + r + 1) = 4 * (4 * (q * q) + 2 * (q * r) + q) + r * (r + 1) := by
    rw [Nat.add_mul, Nat.mul_add, Nat.mul_add, Nat.mul_add, Nat.mul_add, Nat.mul_add]
    have e1 : 4 * q * (4 * q) = 16 * (q * q) := by rw [Nat.mul_mul_mul_comm]
    have e2 : 4 * q * r = 4 * (q * r) := Nat.mul_assoc _ _ _
    have e3 : r * (4 * q) = 4 * (q * r) := by rw [Nat.mul_left_comm, Nat.mul_comm r q]
    rw [e1, e2, e3, show r * (r + 1) = r * r + r from Nat.mul_succ r r]
    omega
  rw [e] at h3
  have hn : n = 8 * q + 2 * r + 1 := by omega
  subst hn
  match r, hr with
  | 0, _ => rw [if_neg (by omega)]; omega
  | 1, _ => rw [if_pos (by omega)]; omega
  | 2, _ => rw [if_pos (by omega)]; omega
  | 3, _ => rw [if_neg (by omega)]; omega
theorem cnt_range' (q M : Nat) (h : q ≤ M) : sumN ((List.range' 1 M).map fun l => if l ≤ q then 1 else 0) = q := by
  have gen : ∀ M, sumN ((List.range' 1 M).map fun l => if l ≤ q then 1 else 0) = min q M := by
    intro M
    induction M with
    | zero => simp [sumN]
    | succ M ih =>
      rw [List.range'_1_concat, List.map_append, sumN_append, ih]
      simp only [List.map_cons, List.map_nil, sumN_cons, sumN_nil]
      split <;> omega
  rw [gen]; omega
theorem eS_count {n m : Nat} (hn : n % 2 = 1) (hm : m % 2 = 1) (hc : Nat.Coprime m n) : eS n m = sumN ((half1 n).map fun k => sumN ((half1 m).map fun l => if l * n < m * k then 1 else 0)) := by
  unfold eS
  refine sumN_map_congr fun k hk => ?_
  have hk' := mem_half1.1 hk
  have hz := mul_mod_ne hn hc hk'.1 (by omega)
  have hq : m * k / n ≤ m / 2 := by
    have h1 : m * k / n < m / 2 + 1 := by
      rw [Nat.div_lt_iff_lt_mul (by omega)]
      have h2 := Nat.mul_le_mul_left m (show 2 * k ≤ n by omega)
      have h3 : (m / 2 + 1) * n * 2 = m * n + n := by
        rw [Nat.mul_comm _ 2, ← Nat.mul_assoc, show 2 * (m / 2 + 1) = m + 1 by omega, Nat.add_mul, Nat.one_mul]
      have h4 : m * (2 * k) = m * k * 2 := by rw [Nat.mul_comm 2 k, Nat.mul_assoc]
      omega
    omega
  have hcn := cnt_range' (m * k / n) (m / 2) hq
  rw [← hcn]
  unfold half1
  refine sumN_map_congr fun l _ => ?_
  have hiff : l ≤ m * k / n ↔ l * n < m * k := by
    rw [Nat.le_div_iff_mul_le (by omega)]
    constructor
    · intro h
      rcases Nat.lt_or_ge (l * n) (m * k) with h5 | h5
      · exact h5
      · exfalso
        have : m * k = l * n := by omega
        rw [this, Nat.mul_mod_left] at hz
        exact hz rfl
    · intro h; omega
  by_cases h : l * n < m * k
  · rw [if_pos h, if_pos (hiff.2 h)]
  · rw [if_neg h, if_neg (fun h' => h (hiff.1 h'))]
theorem eisenstein {n m : Nat} (hn : n % 2 = 1) (hm : m % 2 = 1) (hc : Nat.Coprime m n) : eS n m + eS m n = (n / 2) * (m / 2) := by
  rw [eS_count hn hm hc, eS_count hm hn hc.symm, sumN_swap (half1 m), ← sumN_map_add]
  have h1 : ∀ k, k ∈ half1 n → (sumN ((half1 m).map fun l => if l * n < m * k then 1 else 0) + sumN ((half1 m).map fun l => if k * m < n * l then 1 else 0)) = m / 2 := by
    intro k hk
    have hk' := mem_half1.1 hk
    have hz := mul_mod_ne hn hc hk'.1 (by omega)
    rw [← sumN_map_add]
    have h2 : sumN ((half1 m).map fun l => (if l * n < m * k then 1 else 0) + (if k * m < n * l then 1 else 0)) = sumN ((half1 m).map fun _ => 1) := by
      refine sumN_map_congr fun l _ => ?_
      rw [Nat.mul_comm k m, Nat.mul_comm n l]
      have hne : l * n ≠ m * k := fun e => by rw [← e, Nat.mul_mod_left] at hz; exact hz rfl
      by_cases h : l * n < m * k
      · rw [if_pos h, if_neg (by omega)]
      · rw [if_neg h, if_pos (by omega)]
    rw [h2]
    have h3 : ∀ l : List Nat, sumN (l.map fun _ => 1) = l.length := by
      intro l
      induction l with
      | nil => rfl
      | cons a l ih => simp only [List.map_cons, sumN_cons, ih, List.length_cons]; omega
    rw [h3, half1_length]
  rw [sumN_map_congr h1]
  have h3 : ∀ (c : Nat) (l : List Nat), sumN (l.map fun _ => c) = l.length * c := by
    intro c l
    induction l with
    | nil => simp [sumN]
    | cons a l ih => simp only [List.map_cons, sumN_cons, ih, List.length_cons, Nat.add_mul]; omega
  rw [h3, half1_length]
theorem reciprocity {n m : Nat} (hn : n % 2 = 1) (hm : m % 2 = 1) (hc : Nat.Coprime m n) : (gS n m + gS m n) % 2 = if m % 4 = 3 ∧ n % 4 = 3 then 1 else 0 := by
  have h1 := gS_odd hn hc hm
  have h2 := gS_odd hm hc.symm hn
  have h3 := eisenstein hn hm hc
  have h4 : (gS n m + gS m n) % 2 = ((n / 2) * (m / 2)) % 2 := by omega
  rw [h4, Nat.mul_mod]
  by_cases h : m % 4 = 3 ∧ n % 4 = 3
  · rw [if_pos h, show n / 2 % 2 = 1 by omega, show m / 2 % 2 = 1 by omega]
  · rw [if_neg h]
    have : n / 2 % 2 = 0 ∨ m / 2 % 2 = 0 := by omega
    rcases this with e | e <;> rw [e] <;> simp

/-- The symbol of Jacobi. -/
def jac (a n : Nat) : Int := if Nat.gcd a n = 1 then (if gS n a % 2 = 0 then 1 else -1) else 0
theorem jac_mod (a n : Nat) : jac (a % n) n = jac a n := by
  have hg : Nat.gcd (a % n) n = Nat.gcd a n := by rw [Nat.gcd_comm a, Nat.gcd_rec n a]
  unfold jac
  rw [gS_mod]
  by_cases h : Nat.gcd a n = 1
  · rw [if_pos h, if_pos (hg.trans h)]
  · rw [if_neg h, if_neg (fun h' => h (hg.symm.trans h'))]
theorem jac_mul {a b n : Nat} (ho : n % 2 = 1) : jac (a * b) n = jac a n * jac b n := by
  unfold jac
  by_cases ha : Nat.gcd a n = 1
  · by_cases hb : Nat.gcd b n = 1
    · have hab : Nat.gcd (a * b) n = 1 := Nat.Coprime.mul_left ha hb
      rw [if_pos ha, if_pos hb, if_pos hab]
      have := gS_mul ho ha hb
      by_cases h1 : gS n a % 2 = 0 <;> by_cases h2 : gS n b % 2 = 0
      · rw [if_pos h1, if_pos h2, if_pos (by omega)]; rfl
      · rw [if_pos h1, if_neg h2, if_neg (by omega)]; rfl
      · rw [if_neg h1, if_pos h2, if_neg (by omega)]; rfl
      · rw [if_neg h1, if_neg h2, if_pos (by omega)]; rfl
    · have hab : ¬ Nat.gcd (a * b) n = 1 := fun h => hb (Nat.Coprime.coprime_mul_left (k := a) h)
      rw [if_neg hb, if_neg hab, Int.mul_zero]
  · have hab : ¬ Nat.gcd (a * b) n = 1 := fun h => ha (Nat.Coprime.coprime_mul_right (k := b) h)
    rw [if_neg ha, if_neg hab, Int.zero_mul]
theorem jac_two {n : Nat} (ho : n % 2 = 1) : jac 2 n = if n % 8 = 3 ∨ n % 8 = 5 then -1 else 1 := by
  have hc : Nat.gcd 2 n = 1 := by rw [Nat.gcd_rec, ho]; rfl
  unfold jac
  rw [if_pos hc, gS_two ho]
  by_cases h : n % 8 = 3 ∨ n % 8 = 5
  · rw [if_pos h, if_pos h]; rfl
  · rw [if_neg h, if_neg h]; rfl
theorem jac_rec {m n : Nat} (hm : m % 2 = 1) (hn : n % 2 = 1) : (if m % 4 = 3 ∧ n % 4 = 3 then -1 else 1) * jac n m = jac m n := by
  unfold jac
  by_cases hc : Nat.gcd m n = 1
  · have hc' : Nat.gcd n m = 1 := by rw [Nat.gcd_comm]; exact hc
    rw [if_pos hc, if_pos hc']
    have h := reciprocity hn hm hc
    by_cases h4 : m % 4 = 3 ∧ n % 4 = 3
    · rw [if_pos h4] at h ⊢
      by_cases h1 : gS n m % 2 = 0
      · rw [if_pos h1, if_neg (by omega)]; rfl
      · rw [if_neg h1, if_pos (by omega)]; rfl
    · rw [if_neg h4] at h ⊢
      by_cases h1 : gS n m % 2 = 0
      · rw [if_pos h1, if_pos (by omega)]; rfl
      · rw [if_neg h1, if_neg (by omega)]; rfl
  · have hc' : ¬ Nat.gcd n m = 1 := by rw [Nat.gcd_comm]; exact hc
    rw [if_neg hc, if_neg hc', Int.mul_zero]
theorem jac_zero (n : Nat) : jac 0 n = if n = 1 then 1 else 0 := by
  unfold jac
  by_cases h : n = 1
  · subst h; rfl
  · rw [if_neg h, if_neg (fun h' => h ((Nat.gcd_zero_left n).symm.trans h'))]
theorem jacIn_spec : ∀ (f a n : Nat) (s : Int), n % 2 = 1 → 0 < a → a ≤ f → (jacIn f a n s).1 % 2 = 1 ∧ 0 < (jacIn f a n s).1 ∧ (jacIn f a n s).1 ≤ a ∧ (jacIn f a n s).2 * jac (jacIn f a n s).1 n = s * jac a n
  | 0, a, _, _, _, h0, h => absurd h0 (by omega)
  | f + 1, a, n, s, ho, h0, h => by
    by_cases he : a % 2 = 0
    · rw [jacIn_even he]
      obtain ⟨i1, i2, i3, i4⟩ := jacIn_spec f (a / 2) n (if n % 8 = 3 ∨ n % 8 = 5 then -s else s) ho (by omega) (by omega)
      refine ⟨i1, i2, by omega, ?_⟩
      rw [i4]
      have e : jac a n = jac 2 n * jac (a / 2) n := by
        rw [← jac_mul ho]; congr 1; omega
      rw [e, jac_two ho]
      split <;> simp [Int.neg_mul, Int.mul_neg]
    · rw [jacIn_odd he]
      exact ⟨by show a % 2 = 1; omega, h0, Nat.le_refl _, rfl⟩
theorem jacOut_spec : ∀ (f a n : Nat) (s : Int), n % 2 = 1 → a < f → jacOut f a n s = s * jac a n
  | 0, _, _, _, _, h => absurd h (by omega)
  | f + 1, a, n, s, ho, h => by
    unfold jacOut
    by_cases h0 : a = 0
    · subst h0
      rw [if_pos rfl, jac_zero]
      split <;> simp
    · rw [if_neg h0]
      obtain ⟨i1, i2, i3, i4⟩ := jacIn_spec a a n s ho (by omega) (Nat.le_refl _)
      generalize (jacIn a a n s).1 = b at *
      generalize (jacIn a a n s).2 = t at *
      have hl := Nat.mod_lt n i2
      rw [jacOut_spec f (n % b) b _ i1 (by omega), jac_mod, ← i4, ← jac_rec i1 ho]
      split <;> simp [Int.neg_mul, Int.mul_neg]
theorem jacS_eq {a n : Nat} (ho : n % 2 = 1) : jacS a n = jac a n := by
  unfold jacS
  rw [jacOut_spec _ _ _ _ ho (by omega), Int.one_mul, jac_mod]

end Go.Proofs.YtfggpgiinihflaaDoor
