/- Plain words for polynomials modulo a number: values, products, Lagrange's sum. Plain: the extended algorithm for any two numbers. Plain: the polynomial through the points of a polynomial is that polynomial. -/
import Derived.ProofKit
namespace Go.Proofs.YtkdbemdobfddoaaGreatDoor
/-- The value of a polynomial, the way both sides reckon it. -/
def valL (q x : Nat) : List Nat → Nat
  | [] => 0
  | c :: cs => (valL q x cs * x % q + c) % q
/-- A polynomial times X - x. -/
def mulX (q x : Nat) (p : List Nat) : List Nat := List.zipWith (fun a b => (a % q + (q - b * x % q)) % q) (0 :: p) (p ++ [0])
/-- The inverse, or 0. -/
def invM (s q : Nat) : Nat := ((List.range q).find? (fun x => s * x % q == 1 % q)).getD 0
/-- The product of X - xs[k] over k below a bound but i, and its value at xs[i]. -/
def polyP (q : Nat) (xs : List Nat) (i : Nat) : Nat → List Nat × Nat
  | 0 => ([1], 1)
  | k + 1 => if k = i then polyP q xs i k else (mulX q (xs.getD k 0) (polyP q xs i k).1, (polyP q xs i k).2 * ((xs.getD i 0 % q + (q - xs.getD k 0 % q)) % q) % q)
/-- The sum of the first Lagrange polynomials. -/
def outL (q : Nat) (xs ys : List Nat) : Nat → List Nat
  | 0 => List.replicate xs.length 0
  | i + 1 => List.zipWith (fun o c => (o + c * (ys.getD i 0 * invM (polyP q xs i xs.length).2 q % q) % q) % q) (outL q xs ys i) (polyP q xs i xs.length).1
def thruL (q : Nat) (xs ys : List Nat) : List Nat := outL q xs ys xs.length
theorem valL_lt {q x : Nat} (hq : 0 < q) : ∀ l, valL q x l < q
  | [] => hq
  | _ :: _ => Nat.mod_lt _ hq
theorem mulX_length (q x : Nat) (p : List Nat) : (mulX q x p).length = p.length + 1 := by simp [mulX]
theorem mulX_lt {q x : Nat} (hq : 0 < q) (p : List Nat) : ∀ c ∈ mulX q x p, c < q := by
  intro c hc
  unfold mulX at hc
  obtain ⟨i, hi, rfl⟩ := List.getElem_of_mem hc
  rw [List.getElem_zipWith]
  exact Nat.mod_lt _ hq
theorem polyP_length (q : Nat) (xs : List Nat) (i : Nat) : ∀ k, (polyP q xs i k).1.length = if i < k then k else k + 1
  | 0 => by simp [polyP]
  | k + 1 => by
    have ih := polyP_length q xs i k
    unfold polyP
    by_cases h : k = i
    · rw [if_pos h, ih]
      subst h
      rw [if_neg (Nat.lt_irrefl k), if_pos (Nat.lt_succ_self k)]
    · rw [if_neg h]
      show (mulX q _ _).length = _
      rw [mulX_length, ih]
      by_cases h1 : i < k
      · rw [if_pos h1, if_pos (by omega)]
      · rw [if_neg h1, if_neg (by omega)]
theorem polyP_full (q : Nat) (xs : List Nat) (i : Nat) (h : i < xs.length) : (polyP q xs i xs.length).1.length = xs.length := by rw [polyP_length, if_pos h]
theorem outL_length (q : Nat) (xs ys : List Nat) : ∀ i, i ≤ xs.length → (outL q xs ys i).length = xs.length
  | 0, _ => by simp [outL]
  | i + 1, h => by
    unfold outL
    rw [List.length_zipWith, outL_length q xs ys i (by omega), polyP_full q xs i (by omega), Nat.min_self]
theorem thruL_length (q : Nat) (xs ys : List Nat) : (thruL q xs ys).length = xs.length := outL_length q xs ys _ (Nat.le_refl _)
theorem invM_eq {s q x : Nat} (hx : x < q) (h : s * x % q = 1 % q) : invM s q = x := by
  unfold invM
  cases hf : (List.range q).find? (fun x => s * x % q == 1 % q) with
  | none =>
    have := List.find?_eq_none.1 hf x (List.mem_range.2 hx)
    simp [h] at this
  | some y =>
    have hy := List.find?_some hf
    have hyq : y < q := List.mem_range.1 (List.mem_of_find?_eq_some hf)
    have hy2 : s * y % q = 1 % q := by simpa using hy
    show y = x
    have e1 : x * (s * y) % q = x := by rw [Nat.mul_mod, hy2, ← Nat.mul_mod, Nat.mul_one, Nat.mod_eq_of_lt hx]
    have e2 : y * (s * x) % q = y := by rw [Nat.mul_mod, h, ← Nat.mul_mod, Nat.mul_one, Nat.mod_eq_of_lt hyq]
    have e3 : x * (s * y) = y * (s * x) := by rw [Nat.mul_left_comm, Nat.mul_comm x y, Nat.mul_left_comm]
    rw [e3, e2] at e1
    exact e1
theorem invM_none {s q : Nat} (h2 : 2 ≤ q) (h : Nat.gcd (s % q) q ≠ 1) : invM s q = 0 := by
  unfold invM
  cases hf : (List.range q).find? (fun x => s * x % q == 1 % q) with
  | none => rfl
  | some y =>
    exfalso
    have hy := List.find?_some hf
    have hy2 : s * y % q = 1 % q := by simpa using hy
    rw [Nat.mod_eq_of_lt (show 1 < q by omega)] at hy2
    apply h
    have hd : Nat.gcd (s % q) q ∣ 1 := by
      have h1 : Nat.gcd (s % q) q ∣ s := (Nat.dvd_mod_iff (Nat.gcd_dvd_right _ _)).1 (Nat.gcd_dvd_left _ _)
      have h3 : Nat.gcd (s % q) q ∣ s * y := Nat.dvd_trans h1 (Nat.dvd_mul_right _ _)
      have h4 := (Nat.dvd_mod_iff (Nat.gcd_dvd_right (s % q) q)).2 h3
      rwa [hy2] at h4
    exact Nat.dvd_one.1 hd
theorem invM_ext {s q : Nat} {X Y : Int} (h2 : 2 ≤ q) (hX : 0 ≤ X) (h : ((s % q : Nat) : Int) * X + q * Y = 1) : invM s q = X.natAbs % q := by
  obtain ⟨x, rfl⟩ : ∃ x : Nat, X = x := ⟨X.natAbs, by omega⟩
  rw [Int.natAbs_natCast]
  refine invM_eq (Nat.mod_lt _ (by omega)) ?_
  have e : ((s % q * x : Nat) : Int) % (q : Int) = 1 % (q : Int) := by
    rw [show ((s % q * x : Nat) : Int) = 1 - (q : Int) * Y by rw [Int.natCast_mul]; omega]
    rw [Int.sub_mul_emod_self_left]
  have e2 : s % q * x % q = 1 % q := by
    have := e
    rw [← Int.natCast_emod, show (1 : Int) % (q : Int) = ((1 % q : Nat) : Int) by rw [Int.natCast_emod]; rfl] at this
    exact Int.ofNat.inj this
  rw [← e2, Nat.mul_mod s (x % q), Nat.mod_mod, ← Nat.mul_mod, Nat.mul_mod (s % q) x, Nat.mod_mod, ← Nat.mul_mod]
theorem thruL_ex : thruL 7 [1, 2, 3] [6, 6, 3] = [3, 1, 2] := by decide +kernel
end Go.Proofs.YtkdbemdobfddoaaGreatDoor

namespace Go.Proofs.YtkdbemdobfddoaaGreatDoor
/-- The rows of the extended algorithm. -/
def exS (a b : Nat) : Nat → Nat × Nat × Int × Int × Int × Int
  | 0 => (a, b, 1, 0, 0, 1)
  | j + 1 => ((exS a b j).2.1, (exS a b j).1 % (exS a b j).2.1, (exS a b j).2.2.2.1, (exS a b j).2.2.1 - (((exS a b j).1 / (exS a b j).2.1 : Nat) : Int) * (exS a b j).2.2.2.1,
      (exS a b j).2.2.2.2.2, (exS a b j).2.2.2.2.1 - (((exS a b j).1 / (exS a b j).2.1 : Nat) : Int) * (exS a b j).2.2.2.2.2)
def gA (a b j : Nat) : Nat := (exS a b j).1
def gB (a b j : Nat) : Nat := (exS a b j).2.1
def gX (a b j : Nat) : Int := (exS a b j).2.2.1
def gY (a b j : Nat) : Int := (exS a b j).2.2.2.2.1
theorem gX1 (a b j : Nat) : (exS a b j).2.2.2.1 = gX a b (j + 1) := rfl
theorem gY1 (a b j : Nat) : (exS a b j).2.2.2.2.2 = gY a b (j + 1) := rfl
theorem gA_succ (a b j : Nat) : gA a b (j + 1) = gB a b j := rfl
theorem gB_succ (a b j : Nat) : gB a b (j + 1) = gA a b j % gB a b j := rfl
theorem gX_two (a b j : Nat) : gX a b (j + 2) = gX a b j - ((gA a b j / gB a b j : Nat) : Int) * gX a b (j + 1) := rfl
theorem gY_two (a b j : Nat) : gY a b (j + 2) = gY a b j - ((gA a b j / gB a b j : Nat) : Int) * gY a b (j + 1) := rfl
/-- What holds of a row. -/
structure EInv (a b j : Nat) (u0 u1 v0 v1 : Nat) : Prop where
  sgn : (gX a b j = u0 ∧ gX a b (j + 1) = -(u1 : Int) ∧ gY a b j = -(v0 : Int) ∧ gY a b (j + 1) = v1) ∨ (gX a b j = -(u0 : Int) ∧ gX a b (j + 1) = u1 ∧ gY a b j = v0 ∧ gY a b (j + 1) = -(v1 : Int))
  hb : gA a b j * u1 + gB a b j * u0 = b
  ha : gA a b j * v1 + gB a b j * v0 = a
  hg : Nat.gcd (gA a b j) (gB a b j) = Nat.gcd a b
  bz : (a : Int) * gX a b j + b * gY a b j = gA a b j
  bz1 : (a : Int) * gX a b (j + 1) + b * gY a b (j + 1) = gB a b j
  big : 1 ≤ j → gB a b j < gA a b j ∧ u0 ≤ u1
theorem EInv.start (a b : Nat) : EInv a b 0 1 0 0 1 :=
  ⟨.inl ⟨rfl, by simp [gX, exS], by simp [gY, exS], rfl⟩, by simp [gA, gB, exS], by simp [gA, gB, exS], rfl, by simp [gX, gY, gA, exS], by simp [gX, gY, gB, exS], fun h => absurd h (by decide)⟩
theorem EInv.next {a b j u0 u1 v0 v1 : Nat} (h : EInv a b j u0 u1 v0 v1) (hB : gB a b j ≠ 0) : EInv a b (j + 1) u1 (u0 + gA a b j / gB a b j * u1) v1 (v0 + gA a b j / gB a b j * v1) := by
  obtain ⟨sgn, hb, ha, hg, bz, bz1, big⟩ := h
  have hdm := Nat.div_add_mod (gA a b j) (gB a b j)
  obtain ⟨q, hq⟩ : ∃ q, q = gA a b j / gB a b j := ⟨_, rfl⟩
  obtain ⟨r, hr⟩ : ∃ r, r = gA a b j % gB a b j := ⟨_, rfl⟩
  have hx := gX_two a b j
  have hy := gY_two a b j
  have hbs := gB_succ a b j
  have has := gA_succ a b j
  rw [← hq] at hx hy ⊢
  rw [← hr] at hbs
  rw [← hq, ← hr] at hdm
  have key : ∀ s t : Nat, gB a b j * (s + q * t) + r * t = gA a b j * t + gB a b j * s := by
    intro s t
    rw [← hdm, Nat.add_mul, Nat.mul_add, Nat.mul_assoc]
    omega
  refine ⟨?_, ?_, ?_, ?_, ?_, ?_, fun _ => ⟨?_, ?_⟩⟩
  · rcases sgn with ⟨e1, e2, e3, e4⟩ | ⟨e1, e2, e3, e4⟩
    · right
      refine ⟨e2, ?_, e4, ?_⟩
      · rw [hx, e1, e2]; simp only [Int.natCast_add, Int.natCast_mul, Int.mul_neg]; omega
      · rw [hy, e3, e4]; simp only [Int.natCast_add, Int.natCast_mul]; omega
    · left
      refine ⟨e2, ?_, e4, ?_⟩
      · rw [hx, e1, e2]; simp only [Int.natCast_add, Int.natCast_mul]; omega
      · rw [hy, e3, e4]; simp only [Int.natCast_add, Int.natCast_mul, Int.mul_neg]; omega
  · rw [has, hbs, key]; exact hb
  · rw [has, hbs, key]; exact ha
  · rw [has, hbs, ← hg, hr, Nat.gcd_comm (gA a b j), Nat.gcd_rec (gB a b j) (gA a b j), Nat.gcd_comm]
  · rw [has]; exact bz1
  · rw [hx, hy, hbs]
    have e : (r : Int) = (gA a b j : Int) - (gB a b j : Int) * (q : Int) := by rw [← hdm]; simp only [Int.natCast_add, Int.natCast_mul]; omega
    rw [e, ← bz, ← bz1, Int.mul_sub, Int.mul_sub, Int.add_mul]
    have e1 : (a : Int) * ((q : Int) * gX a b (j + 1)) = (a : Int) * gX a b (j + 1) * (q : Int) := by rw [Int.mul_comm (q : Int), Int.mul_assoc]
    have e2 : (b : Int) * ((q : Int) * gY a b (j + 1)) = (b : Int) * gY a b (j + 1) * (q : Int) := by rw [Int.mul_comm (q : Int), Int.mul_assoc]
    rw [e1, e2]
    omega
  · rw [has, hbs, hr]; exact Nat.mod_lt _ (Nat.pos_of_ne_zero hB)
  · by_cases hj : 1 ≤ j
    · have := big hj
      have hq1 : 1 ≤ q := by rw [hq]; exact Nat.div_pos (Nat.le_of_lt this.1) (Nat.pos_of_ne_zero hB)
      have := Nat.mul_le_mul_right u1 hq1
      omega
    · have : j = 0 := by omega
      subst this
      have hu1 : u1 = 0 := by
        have e : gX a b 1 = 0 := rfl
        rcases sgn with ⟨_, e2, _⟩ | ⟨_, e2, _⟩
        · rw [e] at e2; omega
        · rw [e] at e2; omega
      rw [hu1]; exact Nat.zero_le _
theorem EInv.all {a b : Nat} : ∀ j, (∀ i, i < j → gB a b i ≠ 0) → ∃ u0 u1 v0 v1, EInv a b j u0 u1 v0 v1
  | 0, _ => ⟨1, 0, 0, 1, EInv.start a b⟩
  | j + 1, h => by
    obtain ⟨u0, u1, v0, v1, hi⟩ := EInv.all j (fun i hi => h i (by omega))
    exact ⟨_, _, _, _, hi.next (h j (by omega))⟩
/-- All numbers of a row are bounded. -/
theorem e_bounds {a b K j : Nat} (ha : a < K) (hb : b < K) (hK : 2 ≤ K) (hj : ∀ i, i < j → gB a b i ≠ 0) (h : gB a b j ≠ 0) :
    gA a b j < K ∧ gB a b j < K ∧ (gX a b j).natAbs < K ∧ (gX a b (j + 1)).natAbs < K ∧ (gY a b j).natAbs < K ∧ (gY a b (j + 1)).natAbs < K ∧
    (((gA a b j / gB a b j : Nat) : Int) * gX a b (j + 1)).natAbs < K ∧ (((gA a b j / gB a b j : Nat) : Int) * gY a b (j + 1)).natAbs < K ∧ gA a b j / gB a b j < K := by
  have hAB : ∀ i, i ≤ j → gA a b i < K ∧ gB a b i < K := by
    intro i
    induction i with
    | zero => exact fun _ => ⟨ha, hb⟩
    | succ i ih =>
      intro hi
      obtain ⟨h1, h2⟩ := ih (by omega)
      exact ⟨h2, Nat.lt_trans (Nat.mod_lt _ (Nat.pos_of_ne_zero (hj i (by omega)))) h2⟩
  obtain ⟨u0, u1, v0, v1, hi⟩ := EInv.all j hj
  obtain ⟨hA, hB⟩ := hAB j (Nat.le_refl _)
  have hqB := Nat.div_mul_le_self (gA a b j) (gB a b j)
  obtain ⟨q, hq⟩ : ∃ q, q = gA a b j / gB a b j := ⟨_, rfl⟩
  have hqA : q ≤ gA a b j := by rw [hq]; exact Nat.div_le_self _ _
  rw [← hq] at hqB ⊢
  have b0 : u0 ≤ b := by
    have := hi.hb
    have h2 : u0 ≤ gB a b j * u0 := Nat.le_mul_of_pos_left _ (Nat.pos_of_ne_zero h)
    omega
  have c0 : v0 ≤ a := by
    have := hi.ha
    have h2 : v0 ≤ gB a b j * v0 := Nat.le_mul_of_pos_left _ (Nat.pos_of_ne_zero h)
    omega
  have bq : q * u1 ≤ b := by
    have h1 := Nat.mul_le_mul_right u1 hqA
    have := hi.hb
    omega
  have cq : q * v1 ≤ a := by
    have h1 := Nat.mul_le_mul_right v1 hqA
    have := hi.ha
    omega
  have b1 : u1 < K := by
    by_cases hz : gA a b j = 0
    · have hj0 : j = 0 := by
        rcases Nat.eq_zero_or_pos j with h0 | h0
        · exact h0
        · have := (hi.big h0).1; omega
      subst hj0
      have e : gX a b 1 = 0 := rfl
      rcases hi.sgn with ⟨_, e2, _⟩ | ⟨_, e2, _⟩
      · rw [e] at e2; omega
      · rw [e] at e2; omega
    · have h2 : u1 ≤ gA a b j * u1 := Nat.le_mul_of_pos_left _ (Nat.pos_of_ne_zero hz)
      have := hi.hb
      omega
  have c1 : v1 < K := by
    by_cases hz : gA a b j = 0
    · have hj0 : j = 0 := by
        rcases Nat.eq_zero_or_pos j with h0 | h0
        · exact h0
        · have := (hi.big h0).1; omega
      subst hj0
      have e : gY a b 1 = 1 := rfl
      rcases hi.sgn with ⟨_, _, _, e2⟩ | ⟨_, _, _, e2⟩
      · rw [e] at e2; omega
      · rw [e] at e2; omega
    · have h2 : v1 ≤ gA a b j * v1 := Nat.le_mul_of_pos_left _ (Nat.pos_of_ne_zero hz)
      have := hi.ha
      omega
  have n1 : ((q : Int) * gX a b (j + 1)).natAbs = q * u1 := by
    rw [Int.natAbs_mul]
    rcases hi.sgn with ⟨_, e2, _⟩ | ⟨_, e2, _⟩ <;> rw [e2] <;> simp
  have n2 : ((q : Int) * gY a b (j + 1)).natAbs = q * v1 := by
    rw [Int.natAbs_mul]
    rcases hi.sgn with ⟨_, _, _, e2⟩ | ⟨_, _, _, e2⟩ <;> rw [e2] <;> simp
  refine ⟨hA, hB, ?_, ?_, ?_, ?_, by rw [n1]; omega, by rw [n2]; omega, by omega⟩
  all_goals rcases hi.sgn with ⟨e1, e2, e3, e4⟩ | ⟨e1, e2, e3, e4⟩ <;> omega
/-- What holds at the end. -/
theorem e_end {a b j : Nat} (hb0 : b ≠ 0) (hj : ∀ i, i < j → gB a b i ≠ 0) (h : gB a b j = 0) :
    gA a b j = Nat.gcd a b ∧ (gX a b j).natAbs ≤ b ∧ (gY a b j).natAbs ≤ a + 1 ∧ (a : Int) * gX a b j + b * gY a b j = (Nat.gcd a b : Nat) ∧ (gX a b j < 0 → 0 ≤ gX a b j + ((b / Nat.gcd a b : Nat) : Int)) ∧ 0 < Nat.gcd a b := by
  obtain ⟨u0, u1, v0, v1, hi⟩ := EInv.all j hj
  have hj1 : 1 ≤ j := by
    rcases Nat.eq_zero_or_pos j with h0 | h0
    · subst h0; exact absurd h hb0
    · exact h0
  have hg : gA a b j = Nat.gcd a b := by
    have := hi.hg
    rw [h, Nat.gcd_zero_right] at this
    exact this
  have hpos : 0 < Nat.gcd a b := Nat.gcd_pos_of_pos_right _ (Nat.pos_of_ne_zero hb0)
  have hbb := hi.hb
  rw [h, Nat.zero_mul, Nat.add_zero, hg] at hbb
  have hu : u0 ≤ u1 := (hi.big hj1).2
  have hq : b / Nat.gcd a b = u1 := Nat.div_eq_of_eq_mul_right hpos hbb.symm
  have hbz := hi.bz
  rw [hg] at hbz
  have hu1 : u1 ≤ b := by rw [← hbb]; exact Nat.le_mul_of_pos_left _ hpos
  have hv0 : v0 ≤ a + 1 := by
    obtain ⟨i, rfl⟩ : ∃ i, j = i + 1 := ⟨j - 1, by omega⟩
    obtain ⟨p0, p1, r0, r1, hp⟩ := EInv.all i (fun k hk => hj k (by omega))
    have hv : v0 = r1 := by
      rcases hi.sgn with ⟨_, _, e3, _⟩ | ⟨_, _, e3, _⟩ <;> rcases hp.sgn with ⟨_, _, _, f4⟩ | ⟨_, _, _, f4⟩ <;> rw [e3] at f4 <;> omega
    rw [hv]
    by_cases hz : gA a b i = 0
    · have hi0 : i = 0 := by
        rcases Nat.eq_zero_or_pos i with h0 | h0
        · exact h0
        · have := (hp.big h0).1; omega
      subst hi0
      have e : gY a b 1 = 1 := rfl
      rcases hp.sgn with ⟨_, _, _, e2⟩ | ⟨_, _, _, e2⟩
      · rw [e] at e2; omega
      · rw [e] at e2; omega
    · have h2 : r1 ≤ gA a b i * r1 := Nat.le_mul_of_pos_left _ (Nat.pos_of_ne_zero hz)
      have := hp.ha
      omega
  refine ⟨hg, ?_, ?_, hbz, ?_, hpos⟩
  · rcases hi.sgn with ⟨e1, _⟩ | ⟨e1, _⟩ <;> rw [e1] <;> omega
  · rcases hi.sgn with ⟨_, _, e3, _⟩ | ⟨_, _, e3, _⟩ <;> rw [e3] <;> omega
  · intro _
    rw [hq]
    rcases hi.sgn with ⟨e1, _⟩ | ⟨e1, _⟩ <;> rw [e1] <;> omega
/-- The rounds come to an end. -/
theorem e_stops (a b : Nat) : ∃ N, gB a b N = 0 ∧ ∀ i, i < N → gB a b i ≠ 0 := by
  have h : ∀ k j, gB a b j ≤ k → (∀ i, i < j → gB a b i ≠ 0) → ∃ N, gB a b N = 0 ∧ ∀ i, i < N → gB a b i ≠ 0 := by
    intro k
    induction k with
    | zero => exact fun j hj hi => ⟨j, by omega, hi⟩
    | succ k ih =>
      intro j hj hi
      by_cases h0 : gB a b j = 0
      · exact ⟨j, h0, hi⟩
      · refine ih (j + 1) ?_ (fun i hlt => ?_)
        · rw [gB_succ]
          have := Nat.mod_lt (gA a b j) (Nat.pos_of_ne_zero h0)
          omega
        · by_cases e : i = j
          · subst e; exact h0
          · exact hi i (by omega)
  exact h _ 0 (Nat.le_refl _) (fun i hi => absurd hi (Nat.not_lt_zero _))
end Go.Proofs.YtkdbemdobfddoaaGreatDoor

namespace Go.Proofs.YtkdbemdobfddoaaGreatDoor
/-- Two integers that leave the same remainder. -/
def cg (q : Nat) (a b : Int) : Prop := (q : Int) ∣ (a - b)
theorem cg.refl (q : Nat) (a : Int) : cg q a a := by unfold cg; rw [Int.sub_self]; exact Int.dvd_zero _
theorem cg.of_eq {q : Nat} {a b : Int} (h : a = b) : cg q a b := h ▸ cg.refl q a
theorem cg.symm {q : Nat} {a b : Int} (h : cg q a b) : cg q b a := by unfold cg at *; have := Int.dvd_neg.2 h; rwa [Int.neg_sub] at this
theorem cg.trans {q : Nat} {a b c : Int} (h : cg q a b) (k : cg q b c) : cg q a c := by unfold cg at *; have := Int.dvd_add h k; rwa [show a - b + (b - c) = a - c by omega] at this
theorem cg.add {q : Nat} {a b c d : Int} (h : cg q a b) (k : cg q c d) : cg q (a + c) (b + d) := by unfold cg at *; have := Int.dvd_add h k; rwa [show a - b + (c - d) = a + c - (b + d) by omega] at this
theorem cg.sub {q : Nat} {a b c d : Int} (h : cg q a b) (k : cg q c d) : cg q (a - c) (b - d) := by unfold cg at *; have := Int.dvd_sub h k; rwa [show a - b - (c - d) = a - c - (b - d) by omega] at this
theorem cg.mul {q : Nat} {a b c d : Int} (h : cg q a b) (k : cg q c d) : cg q (a * c) (b * d) := by
  unfold cg at *
  have h1 : (q : Int) ∣ (a - b) * c := Int.dvd_trans h (Int.dvd_mul_right _ _)
  have h2 : (q : Int) ∣ b * (c - d) := Int.dvd_trans k (Int.dvd_mul_left _ _)
  have := Int.dvd_add h1 h2
  rwa [Int.sub_mul, Int.mul_sub, show a * c - b * c + (b * c - b * d) = a * c - b * d by omega] at this
theorem cg.mod {q : Nat} (a : Nat) : cg q ((a % q : Nat) : Int) a := by
  unfold cg
  have := Nat.div_add_mod a q
  have e : ((a % q : Nat) : Int) - (a : Int) = (q : Int) * (-((a / q : Nat) : Int)) := by
    have h2 : ((q * (a / q) + a % q : Nat) : Int) = (a : Int) := by rw [this]
    rw [Int.natCast_add, Int.natCast_mul] at h2
    rw [Int.mul_neg]
    omega
  rw [e]
  exact Int.dvd_mul_right _ _
theorem cg.modn {q : Nat} (a : Int) : cg q (a + q) a := by
  unfold cg
  rw [show a + (q : Int) - a = q by omega]
  exact Int.dvd_refl _
theorem cg.nat {q a b : Nat} (h : cg q a b) (ha : a < q) (hb : b < q) : a = b := by
  unfold cg at h
  obtain ⟨k, hk⟩ := h
  have : k = 0 := by
    rcases Int.lt_trichotomy k 0 with h | h | h
    · exfalso
      have h1 : (q : Int) * k ≤ (q : Int) * (-1) := Int.mul_le_mul_of_nonneg_left (by omega) (by omega)
      omega
    · exact h
    · exfalso
      have h1 : (q : Int) * 1 ≤ (q : Int) * k := Int.mul_le_mul_of_nonneg_left (by omega) (by omega)
      omega
  rw [this, Int.mul_zero] at hk
  omega
/-- A unit may be taken away. -/
theorem cg.cancel {q : Nat} {u v a : Int} (hu : cg q (u * v) 1) (h : cg q (u * a) 0) : cg q a 0 := by
  have h1 : cg q (v * (u * a)) (v * 0) := (cg.refl q v).mul h
  have h2 : cg q (v * (u * a)) a := by
    have h3 : cg q (u * v * a) (1 * a) := hu.mul (cg.refl q a)
    rw [Int.one_mul] at h3
    rwa [show v * (u * a) = u * v * a by rw [← Int.mul_assoc, Int.mul_comm v u]]
  rw [Int.mul_zero] at h1
  exact h2.symm.trans h1
/-- The value of a polynomial with integers. -/
def vF (x : Int) : List Int → Int
  | [] => 0
  | c :: cs => vF x cs * x + c
theorem vF_factor (a : Int) : ∀ D : List Int, ∃ E : List Int, E.length = D.length - 1 ∧ ∀ x, vF x D = vF a D + (x - a) * vF x E
  | [] => ⟨[], rfl, fun x => by simp [vF]⟩
  | [d] => ⟨[], rfl, fun x => by simp [vF]⟩
  | d :: d' :: D => by
    obtain ⟨E, hE, h⟩ := vF_factor a (d' :: D)
    refine ⟨vF a (d' :: D) :: E, by simp [hE], fun x => ?_⟩
    have hx := h x
    show vF x (d' :: D) * x + d = vF a (d' :: D) * a + d + (x - a) * (vF x E * x + vF a (d' :: D))
    generalize vF x (d' :: D) = P at *
    generalize vF a (d' :: D) = R at *
    generalize vF x E = S at *
    subst hx
    rw [Int.add_mul, Int.mul_add, Int.sub_mul x a R, Int.mul_comm x R, Int.mul_comm a R, Int.mul_assoc (x - a) S x]
    omega
/-- A polynomial with as many roots as it has coefficients is zero everywhere. -/
theorem vF_zero {q : Nat} : ∀ (xs : List Int) (D : List Int), D.length ≤ xs.length → (∀ x ∈ xs, cg q (vF x D) 0) → xs.Pairwise (fun a b => ∃ v, cg q ((b - a) * v) 1) → ∀ x, cg q (vF x D) 0
  | [], D, hl, _, _ => by
    have : D = [] := List.eq_nil_of_length_eq_zero (by simpa using hl)
    subst this
    exact fun x => cg.refl q 0
  | a :: xs, D, hl, hr, hp => by
    obtain ⟨E, hE, hf⟩ := vF_factor a D
    rw [List.pairwise_cons] at hp
    have ha := hr a (by simp)
    have hz := vF_zero xs E (by rw [hE]; simp at hl; omega) (fun y hy => by
      obtain ⟨v, hv⟩ := hp.1 y hy
      have h1 := hr y (by simp [hy])
      rw [hf y] at h1
      have h2 : cg q ((y - a) * vF y E) 0 := by
        have := h1.sub ha
        rwa [show vF a D + (y - a) * vF y E - vF a D = (y - a) * vF y E by omega, Int.sub_self] at this
      exact hv.cancel h2) hp.2
    intro x
    rw [hf x]
    have := ha.add ((cg.refl q (x - a)).mul (hz x))
    rwa [Int.mul_zero, Int.add_zero] at this
/-- Numbers as integers. -/
def ints (l : List Nat) : List Int := l.map fun (n : Nat) => (n : Int)
theorem getD_ints (l : List Nat) (i : Nat) : (ints l).getD i 0 = ((l.getD i 0 : Nat) : Int) := by
  simp only [ints, List.getD_eq_getElem?_getD, List.getElem?_map]
  cases l[i]? <;> rfl
theorem getD_zip {α β γ : Type} {f : α → β → γ} {a : List α} {b : List β} {i : Nat} (h1 : i < a.length) (h2 : i < b.length) (da : α) (db : β) (dc : γ) : (List.zipWith f a b).getD i dc = f (a.getD i da) (b.getD i db) := by
  rw [← List.getElem_eq_getD (h := by rw [List.length_zipWith]; omega), List.getElem_zipWith, ← List.getElem_eq_getD (h := h1), ← List.getElem_eq_getD (h := h2)]
theorem getD_mulmap (l : List Int) (t : Int) (i : Nat) : (l.map fun c => c * t).getD i 0 = l.getD i 0 * t := by
  simp only [List.getD_eq_getElem?_getD, List.getElem?_map]
  cases l[i]? <;> simp
theorem valL_cg (q x : Nat) : ∀ l, cg q (valL q x l : Nat) (vF x (ints l))
  | [] => cg.refl q 0
  | c :: cs => by
    have ih := valL_cg q x cs
    show cg q (((valL q x cs * x % q + c) % q : Nat) : Int) (vF x (ints cs) * x + c)
    refine (cg.mod _).trans ?_
    rw [Int.natCast_add]
    refine cg.add ((cg.mod _).trans ?_) (cg.refl q _)
    rw [Int.natCast_mul]
    exact ih.mul (cg.refl q _)
theorem vF_add (x : Int) : ∀ a b : List Int, a.length = b.length → vF x (List.zipWith (· + ·) a b) = vF x a + vF x b
  | [], [], _ => rfl
  | a :: as, b :: bs, h => by
    have := vF_add x as bs (by simpa using h)
    show vF x (List.zipWith (· + ·) as bs) * x + (a + b) = vF x as * x + a + (vF x bs * x + b)
    rw [this, Int.add_mul]
    omega
theorem vF_cg {q : Nat} (x : Int) : ∀ a b : List Int, a.length = b.length → (∀ i, i < a.length → cg q (a.getD i 0) (b.getD i 0)) → cg q (vF x a) (vF x b)
  | [], [], _, _ => cg.refl q 0
  | a :: as, b :: bs, h, hi => by
    refine cg.add (cg.mul (vF_cg x as bs (by simpa using h) (fun i hlt => ?_)) (cg.refl q x)) ?_
    · have := hi (i + 1) (by simpa using hlt)
      simpa using this
    · have := hi 0 (by simp)
      simpa using this
theorem vF_scale (x t : Int) : ∀ a : List Int, vF x (a.map fun c => c * t) = vF x a * t
  | [] => by simp [vF]
  | a :: as => by
    show vF x (as.map fun c => c * t) * x + a * t = (vF x as * x + a) * t
    rw [vF_scale x t as, Int.add_mul, Int.mul_assoc, Int.mul_assoc, Int.mul_comm t x]
theorem vF_snoc0 (x : Int) : ∀ a : List Int, vF x (a ++ [0]) = vF x a
  | [] => by simp [vF]
  | a :: as => by
    show vF x (as ++ [0]) * x + a = vF x as * x + a
    rw [vF_snoc0 x as]
theorem vF_sub (x : Int) : ∀ a b : List Int, a.length = b.length → vF x (List.zipWith (· - ·) a b) = vF x a - vF x b
  | [], [], _ => rfl
  | a :: as, b :: bs, h => by
    have := vF_sub x as bs (by simpa using h)
    show vF x (List.zipWith (· - ·) as bs) * x + (a - b) = vF x as * x + a - (vF x bs * x + b)
    rw [this, Int.sub_mul]
    omega
theorem mulX_cg {q : Nat} (hq : 0 < q) (x0 : Nat) (p : List Nat) (x : Int) : cg q (vF x (ints (mulX q x0 p))) ((x - x0) * vF x (ints p)) := by
  have h1 : cg q (vF x (ints (mulX q x0 p))) (vF x (List.zipWith (· - ·) (0 :: ints p) ((ints p ++ [0]).map fun c => c * (x0 : Int)))) := by
    refine vF_cg x _ _ (by simp [ints, mulX]) (fun i hi => ?_)
    have hi' : i < p.length + 1 := by simpa [ints, mulX] using hi
    have e1 : (ints (mulX q x0 p)).getD i 0 = ((((0 :: p).getD i 0 % q + (q - (p ++ [0]).getD i 0 * x0 % q)) % q : Nat) : Int) := by
      rw [getD_ints]
      unfold mulX
      rw [getD_zip (by simp; omega) (by simp; omega) 0 0 0]
    have e2 : (List.zipWith (· - ·) (0 :: ints p) ((ints p ++ [0]).map fun c => c * (x0 : Int))).getD i 0 = (((0 :: p).getD i 0 : Nat) : Int) - (((p ++ [0]).getD i 0 : Nat) : Int) * x0 := by
      have f1 : (0 :: ints p) = ints (0 :: p) := by simp [ints]
      have f2 : (ints p ++ [0]) = ints (p ++ [0]) := by simp [ints]
      rw [f1, f2, getD_zip (by simp [ints]; omega) (by simp [ints]; omega) 0 0 0, getD_mulmap, getD_ints, getD_ints]
    rw [e1, e2]
    refine (cg.mod _).trans ?_
    rw [Int.natCast_add]
    generalize (0 :: p).getD i 0 = s
    generalize (p ++ [0]).getD i 0 = t
    have hlt : t * x0 % q < q := Nat.mod_lt _ hq
    have e3 : ((q - t * x0 % q : Nat) : Int) = (q : Int) - ((t * x0 % q : Nat) : Int) := by omega
    rw [e3]
    have h3 : cg q ((q : Int) - ((t * x0 % q : Nat) : Int)) (0 - (t : Int) * x0) := by
      refine cg.sub ?_ ?_
      · have := cg.modn (q := q) 0; rwa [Int.zero_add] at this
      · refine (cg.mod _).trans (cg.of_eq (by rw [Int.natCast_mul]))
    have := (cg.mod (q := q) s).add h3
    rwa [show (s : Int) + (0 - (t : Int) * x0) = s - t * x0 by omega] at this
  refine h1.trans (cg.of_eq ?_)
  rw [vF_sub x _ _ (by simp [ints]), vF_scale, vF_snoc0]
  show vF x (ints p) * x + 0 - _ = _
  rw [Int.sub_mul, Int.mul_comm x, Int.mul_comm (x0 : Int)]
  omega
/-- The product of differences, with integers. -/
def prF (xs : List Nat) (i : Nat) (x : Int) : Nat → Int
  | 0 => 1
  | k + 1 => if k = i then prF xs i x k else (x - (xs.getD k 0 : Nat)) * prF xs i x k
theorem polyP_cg {q : Nat} (hq : 0 < q) (xs : List Nat) (i : Nat) : ∀ k, (∀ x : Int, cg q (vF x (ints (polyP q xs i k).1)) (prF xs i x k)) ∧ cg q ((polyP q xs i k).2 : Nat) (prF xs i (xs.getD i 0 : Nat) k)
  | 0 => ⟨fun x => cg.of_eq (by simp [polyP, prF, ints, vF]), cg.of_eq (by simp [polyP, prF])⟩
  | k + 1 => by
    obtain ⟨h1, h2⟩ := polyP_cg hq xs i k
    unfold polyP prF
    by_cases h : k = i
    · rw [if_pos h]
      exact ⟨fun x => by rw [if_pos h]; exact h1 x, by rw [if_pos h]; exact h2⟩
    · rw [if_neg h]
      refine ⟨fun x => ?_, ?_⟩
      · rw [if_neg h]
        exact (mulX_cg hq _ _ x).trans ((cg.refl q _).mul (h1 x))
      · rw [if_neg h]
        refine (cg.mod _).trans ?_
        rw [Int.natCast_mul, Int.mul_comm]
        refine cg.mul ((cg.mod _).trans ?_) h2
        rw [Int.natCast_add]
        have hlt : xs.getD k 0 % q < q := Nat.mod_lt _ hq
        have e3 : ((q - xs.getD k 0 % q : Nat) : Int) = (q : Int) - ((xs.getD k 0 % q : Nat) : Int) := by omega
        rw [e3]
        have h3 : cg q ((q : Int) - ((xs.getD k 0 % q : Nat) : Int)) (0 - (xs.getD k 0 : Nat)) := by
          refine cg.sub ?_ (cg.mod _)
          have := cg.modn (q := q) 0; rwa [Int.zero_add] at this
        have := (cg.mod (q := q) (xs.getD i 0)).add h3
        rwa [show ((xs.getD i 0 : Nat) : Int) + (0 - ((xs.getD k 0 : Nat) : Int)) = (xs.getD i 0 : Nat) - (xs.getD k 0 : Nat) by omega] at this
/-- The sum of Lagrange, with integers. -/
def lgF (q : Nat) (xs ys : List Nat) (x : Int) : Nat → Int
  | 0 => 0
  | i + 1 => lgF q xs ys x i + prF xs i x xs.length * ((ys.getD i 0 : Nat) * (invM (polyP q xs i xs.length).2 q : Nat))
theorem vF_zeros (x : Int) : ∀ n, vF x (List.replicate n 0) = 0
  | 0 => rfl
  | n + 1 => by show vF x (List.replicate n 0) * x + 0 = 0; rw [vF_zeros x n]; omega
theorem outL_cg {q : Nat} (hq : 0 < q) (xs ys : List Nat) (x : Int) : ∀ i, i ≤ xs.length → cg q (vF x (ints (outL q xs ys i))) (lgF q xs ys x i)
  | 0, _ => by
    refine cg.of_eq ?_
    show vF x (ints (List.replicate xs.length 0)) = 0
    rw [show ints (List.replicate xs.length 0) = List.replicate xs.length 0 by simp [ints]]
    exact vF_zeros x _
  | i + 1, h => by
    have ih := outL_cg hq xs ys x i (by omega)
    have hl1 := outL_length q xs ys i (by omega)
    have hl2 := polyP_full q xs i (by omega)
    obtain ⟨h1, _⟩ := polyP_cg hq xs i xs.length
    unfold outL lgF
    obtain ⟨f, hf⟩ : ∃ f, ys.getD i 0 * invM (polyP q xs i xs.length).2 q % q = f := ⟨_, rfl⟩
    have hfc : cg q (f : Int) ((ys.getD i 0 : Nat) * (invM (polyP q xs i xs.length).2 q : Nat)) := by
      rw [← hf]; refine (cg.mod _).trans (cg.of_eq (by rw [Int.natCast_mul]))
    rw [hf]
    generalize outL q xs ys i = o at *
    have h1x := h1 x
    generalize (polyP q xs i xs.length).1 = p at *
    have h2 : cg q (vF x (ints (List.zipWith (fun o c => (o + c * f % q) % q) o p))) (vF x (List.zipWith (· + ·) (ints o) ((ints p).map fun c => c * (f : Int)))) := by
      refine vF_cg x _ _ (by simp [ints]) (fun j hj => ?_)
      have hj1 : j < o.length := by simp [ints] at hj; omega
      have hj2 : j < p.length := by simp [ints] at hj; omega
      have e1 : (ints (List.zipWith (fun o c => (o + c * f % q) % q) o p)).getD j 0 = (((o.getD j 0 + p.getD j 0 * f % q) % q : Nat) : Int) := by
        rw [getD_ints, getD_zip hj1 hj2 0 0 0]
      have e2 : (List.zipWith (· + ·) (ints o) ((ints p).map fun c => c * (f : Int))).getD j 0 = ((o.getD j 0 : Nat) : Int) + (p.getD j 0 : Nat) * f := by
        rw [getD_zip (by simp [ints]; omega) (by simp [ints]; omega) 0 0 0, getD_mulmap, getD_ints, getD_ints]
      rw [e1, e2]
      refine (cg.mod _).trans ?_
      rw [Int.natCast_add]
      exact (cg.refl q _).add ((cg.mod _).trans (cg.of_eq (by rw [Int.natCast_mul])))
    refine h2.trans ?_
    rw [vF_add x _ _ (by simp [ints, hl1, hl2]), vF_scale]
    exact ih.add (h1x.mul hfc)
theorem prF_zero (xs : List Nat) (i m : Nat) (him : m ≠ i) : ∀ k, m < k → prF xs i (xs.getD m 0 : Nat) k = 0
  | 0, h => absurd h (Nat.not_lt_zero _)
  | k + 1, h => by
    unfold prF
    by_cases hm : m = k
    · subst hm
      rw [if_neg him, Int.sub_self, Int.zero_mul]
    · have ih := prF_zero xs i m him k (by omega)
      split
      · exact ih
      · rw [ih, Int.mul_zero]
theorem lgF_zero (q : Nat) (xs ys : List Nat) (m : Nat) (hm : m < xs.length) : ∀ i, i ≤ m → lgF q xs ys (xs.getD m 0 : Nat) i = 0
  | 0, _ => rfl
  | i + 1, h => by
    unfold lgF
    rw [lgF_zero q xs ys m hm i (by omega), prF_zero xs i m (by omega) _ hm, Int.zero_mul, Int.zero_add]
theorem lgF_at (q : Nat) (xs ys : List Nat) (m : Nat) (hm : m < xs.length) : ∀ i, m < i → i ≤ xs.length → lgF q xs ys (xs.getD m 0 : Nat) i = prF xs m (xs.getD m 0 : Nat) xs.length * ((ys.getD m 0 : Nat) * (invM (polyP q xs m xs.length).2 q : Nat))
  | 0, h, _ => absurd h (Nat.not_lt_zero _)
  | i + 1, h, hi => by
    unfold lgF
    by_cases e : m = i
    · subst e
      rw [lgF_zero q xs ys m hm m (Nat.le_refl _), Int.zero_add]
    · rw [lgF_at q xs ys m hm i (by omega) (by omega), prF_zero xs i m e _ hm, Int.zero_mul, Int.add_zero]
/-- There is an inverse where there is no common divisor. -/
theorem invM_mul {s q : Nat} (h2 : 2 ≤ q) (h : Nat.gcd (s % q) q = 1) : s * invM s q % q = 1 % q := by
  obtain ⟨N, hN, hi⟩ := e_stops (s % q) q
  obtain ⟨_, _, _, hbz, hpos, _⟩ := e_end (a := s % q) (b := q) (by omega) hi hN
  rw [h, Nat.div_one] at hpos
  rw [h] at hbz
  obtain ⟨x, hx⟩ : ∃ x, gX (s % q) q N = x := ⟨_, rfl⟩
  obtain ⟨y, hy⟩ : ∃ y, gY (s % q) q N = y := ⟨_, rfl⟩
  rw [hx] at hbz hpos
  rw [hy] at hbz
  have hex : ∃ X Y : Int, 0 ≤ X ∧ ((s % q : Nat) : Int) * X + q * Y = 1 := by
    by_cases hn : x < 0
    · refine ⟨x + q, y - (s % q : Nat), hpos hn, ?_⟩
      rw [Int.mul_add, Int.mul_sub, Int.mul_comm (q : Int) ((s % q : Nat) : Int)]
      omega
    · exact ⟨x, y, by omega, by simpa using hbz⟩
  obtain ⟨X, Y, hX, hXY⟩ := hex
  have e := invM_ext h2 hX hXY
  have hf : s * (X.natAbs % q) % q = 1 % q := by
    obtain ⟨n, rfl⟩ : ∃ n : Nat, X = n := ⟨X.natAbs, by omega⟩
    rw [Int.natAbs_natCast]
    have e1 : cg q ((s * (n % q) : Nat) : Int) 1 := by
      have h4 : cg q ((s % q : Nat) : Int) s := cg.mod _
      have h5 : cg q ((n % q : Nat) : Int) n := cg.mod _
      rw [Int.natCast_mul]
      refine (h4.symm.mul h5).trans ?_
      unfold cg
      refine ⟨-Y, ?_⟩
      rw [Int.mul_neg]
      omega
    have e2 : cg q ((s * (n % q) % q : Nat) : Int) ((1 % q : Nat) : Int) := (cg.mod _).trans (e1.trans (cg.mod (q := q) 1).symm)
    exact e2.nat (Nat.mod_lt _ (by omega)) (Nat.mod_lt _ (by omega))
  rw [e]
  exact hf
theorem unit_gcd {q : Nat} {s : Nat} (h : ∃ v : Int, cg q ((s : Int) * v) 1) : Nat.gcd (s % q) q = 1 := by
  obtain ⟨v, hv⟩ := h
  have hd : ((Nat.gcd (s % q) q : Nat) : Int) ∣ 1 := by
    have h1 : Nat.gcd (s % q) q ∣ s := (Nat.dvd_mod_iff (Nat.gcd_dvd_right _ _)).1 (Nat.gcd_dvd_left _ _)
    have h3 : ((Nat.gcd (s % q) q : Nat) : Int) ∣ (s : Int) * v := Int.dvd_trans (Int.ofNat_dvd.2 h1) (Int.dvd_mul_right _ _)
    have h4 : ((Nat.gcd (s % q) q : Nat) : Int) ∣ (s : Int) * v - 1 := Int.dvd_trans (Int.ofNat_dvd.2 (Nat.gcd_dvd_right _ _)) hv
    have := Int.dvd_sub h3 h4
    rwa [show (s : Int) * v - ((s : Int) * v - 1) = 1 by omega] at this
  have : Nat.gcd (s % q) q ∣ 1 := Int.ofNat_dvd.1 hd
  exact Nat.dvd_one.1 this
theorem prF_unit {q : Nat} (xs : List Nat) (i : Nat) : ∀ k, (∀ m, m < k → m ≠ i → ∃ v, cg q ((((xs.getD i 0 : Nat) : Int) - (xs.getD m 0 : Nat)) * v) 1) → ∃ v, cg q (prF xs i (xs.getD i 0 : Nat) k * v) 1
  | 0, _ => ⟨1, cg.of_eq (by simp [prF])⟩
  | k + 1, h => by
    obtain ⟨v, hv⟩ := prF_unit xs i k (fun m hm hne => h m (by omega) hne)
    unfold prF
    by_cases e : k = i
    · exact ⟨v, by rw [if_pos e]; exact hv⟩
    · obtain ⟨t, ht⟩ := h k (by omega) e
      refine ⟨t * v, ?_⟩
      rw [if_neg e]
      have := ht.mul hv
      generalize prF xs i _ k = P at *
      generalize ((xs.getD i 0 : Nat) : Int) - (xs.getD k 0 : Nat) = d at *
      rwa [show d * t * (P * v) = d * P * (t * v) by rw [Int.mul_assoc, Int.mul_assoc, Int.mul_left_comm t P v], Int.one_mul] at this
/-- The polynomial through the points of another one is that one. -/
theorem lagrange {q : Nat} (h2 : 2 ≤ q) (xs ys cs : List Nat) (hl : cs.length ≤ xs.length) (hy : ∀ m, m < xs.length → ys.getD m 0 = valL q (xs.getD m 0) cs)
    (hu : ∀ i m, i < xs.length → m < xs.length → m ≠ i → ∃ v, cg q ((((xs.getD i 0 : Nat) : Int) - (xs.getD m 0 : Nat)) * v) 1) (x : Nat) :
    valL q x (thruL q xs ys) = valL q x cs := by
  have hq : 0 < q := by omega
  have ht : ∀ m, m < xs.length → cg q (vF (xs.getD m 0 : Nat) (ints (thruL q xs ys))) (ys.getD m 0 : Nat) := by
    intro m hm
    refine (outL_cg hq xs ys _ _ (Nat.le_refl _)).trans ?_
    rw [lgF_at q xs ys m hm _ hm (Nat.le_refl _)]
    obtain ⟨_, hs⟩ := polyP_cg hq xs m xs.length
    obtain ⟨v, hv⟩ := prF_unit (q := q) xs m xs.length (fun k hk hne => hu m k hm hk hne)
    have hg := unit_gcd (s := (polyP q xs m xs.length).2) ⟨v, (hs.mul (cg.refl q v)).trans hv⟩
    have hi := invM_mul h2 hg
    generalize (polyP q xs m xs.length).2 = s at *
    generalize invM s q = t at *
    generalize prF xs m _ xs.length = P at *
    have h1 : cg q ((s : Int) * t) 1 := by
      have := (cg.mod (q := q) (s * t)).symm
      rw [hi] at this
      rw [← Int.natCast_mul]
      exact this.trans (cg.mod (q := q) 1)
    have h3 : cg q (P * t) 1 := (hs.symm.mul (cg.refl q _)).trans h1
    have := (cg.refl q ((ys.getD m 0 : Nat) : Int)).mul h3
    rw [Int.mul_one] at this
    rwa [Int.mul_left_comm]
  have hD : ∀ x, cg q (vF x (List.zipWith (· - ·) (ints (thruL q xs ys)) (ints (cs ++ List.replicate (xs.length - cs.length) 0)))) 0 := by
    refine vF_zero (ints xs) _ (by simp [ints, thruL_length]; omega) ?_ ?_
    · intro y hy'
      obtain ⟨m, hm, rfl⟩ := List.getElem_of_mem hy'
      have hm' : m < xs.length := by simpa [ints] using hm
      have e : (ints xs)[m] = ((xs.getD m 0 : Nat) : Int) := by simp [ints, List.getD_eq_getElem?_getD, hm']
      rw [e, vF_sub _ _ _ (by simp [ints, thruL_length]; omega)]
      have h1 := ht m hm'
      rw [hy m hm'] at h1
      have h3 := h1.trans (valL_cg q (xs.getD m 0) cs)
      have h4 : ∀ (y : Int) k, vF y (ints (cs ++ List.replicate k 0)) = vF y (ints cs) := by
        intro y k
        induction k with
        | zero => simp
        | succ k ih =>
          rw [List.replicate_succ', ← List.append_assoc]
          show vF y (ints (_ ++ [0])) = _
          rw [show ints ((cs ++ List.replicate k 0) ++ [0]) = ints (cs ++ List.replicate k 0) ++ [0] by simp [ints], vF_snoc0, ih]
      rw [h4]
      have := h3.sub (cg.refl q (vF (xs.getD m 0 : Nat) (ints cs)))
      rwa [Int.sub_self] at this
    · rw [List.pairwise_iff_getElem]
      intro i j hi hj hij
      have hi' : i < xs.length := by simpa [ints] using hi
      have hj' : j < xs.length := by simpa [ints] using hj
      have e : ∀ m (h : m < (ints xs).length), (ints xs)[m] = ((xs.getD m 0 : Nat) : Int) := by
        intro m h
        have h' : m < xs.length := by simpa [ints] using h
        simp [ints, List.getD_eq_getElem?_getD, h']
      rw [e i hi, e j hj]
      exact hu j i hj' hi' (by omega)
  have h4 : ∀ (y : Int) k, vF y (ints (cs ++ List.replicate k 0)) = vF y (ints cs) := by
    intro y k
    induction k with
    | zero => simp
    | succ k ih =>
      rw [List.replicate_succ', ← List.append_assoc]
      show vF y (ints (_ ++ [0])) = _
      rw [show ints ((cs ++ List.replicate k 0) ++ [0]) = ints (cs ++ List.replicate k 0) ++ [0] by simp [ints], vF_snoc0, ih]
  have hx := hD x
  rw [vF_sub _ _ _ (by simp [ints, thruL_length]; omega), h4] at hx
  have h5 : cg q (vF x (ints (thruL q xs ys))) (vF x (ints cs)) := by
    unfold cg at *
    rwa [Int.sub_zero] at hx
  exact (((valL_cg q x _).trans h5).trans (valL_cg q x cs).symm).nat (valL_lt hq _) (valL_lt hq _)
end Go.Proofs.YtkdbemdobfddoaaGreatDoor
