/- The walk of shamir.through: the coefficients of the polynomial through points. -/
import Derived.Test.YtapplggboepfaaaGreatDoorSh
namespace Go.Proofs.YtapplggboepfaaaGreatDoor
open Go.RowKit
set_option maxRecDepth 100000
set_option linter.unusedVariables false
set_option linter.unusedSimpArgs false
set_option maxHeartbeats 4000000

theorem polyP_lt {q : Nat} (hq : 2 ≤ q) (xs : List Nat) (i : Nat) : ∀ k, (∀ a ∈ (polyP q xs i k).1, a < q) ∧ (polyP q xs i k).2 < q
  | 0 => ⟨fun a ha => by simp [polyP] at ha; omega, by show 1 < q; omega⟩
  | k + 1 => by
    have ih := polyP_lt hq xs i k
    unfold polyP
    by_cases h : k = i
    · rw [if_pos h]; exact ih
    · rw [if_neg h]; exact ⟨mulX_lt (by omega) _, Nat.mod_lt _ (by omega)⟩
theorem polyP_succ_eq {q : Nat} {xs : List Nat} {i : Nat} : polyP q xs i (i + 1) = polyP q xs i i := by rw [polyP, if_pos rfl]
theorem polyP_succ_ne {q : Nat} {xs : List Nat} {i k : Nat} (h : k ≠ i) : polyP q xs i (k + 1) = (mulX q (xs.getD k 0) (polyP q xs i k).1, (polyP q xs i k).2 * ((xs.getD i 0 % q + (q - xs.getD k 0 % q)) % q) % q) := by rw [polyP, if_neg h]
theorem outL_lt {q : Nat} (hq : 0 < q) (xs ys : List Nat) : ∀ i, ∀ a ∈ outL q xs ys i, a < q
  | 0, a, ha => by have : a = 0 := (List.mem_replicate.1 ha).2; omega
  | i + 1, a, ha => by
    unfold outL at ha
    obtain ⟨t, ht, rfl⟩ := List.getElem_of_mem ha
    rw [List.getElem_zipWith]
    exact Nat.mod_lt _ hq
theorem take_set {a b : List Nat} {j : Nat} (hl : a.length = b.length) (hj : j < a.length) : (a.take j ++ b.drop j).set j (a.getD j 0) = a.take (j + 1) ++ b.drop (j + 1) := by
  refine list_ext_getD (by simp; omega) (fun i hi => ?_)
  have hi' : i < a.length := by simp at hi; omega
  by_cases e : i = j
  · subst e
    rw [getD_set_same (by simp; omega)]
    rw [List.getD_eq_getElem?_getD, List.getD_eq_getElem?_getD, List.getElem?_append_left (by simp; omega), List.getElem?_take, if_pos (by omega)]
  · rw [getD_set_other (by omega)]
    simp only [List.getD_eq_getElem?_getD, List.getElem?_append, List.length_take, List.getElem?_take, List.getElem?_drop]
    by_cases h : i < j
    · rw [if_pos (by omega), if_pos h, if_pos (by omega), if_pos (by omega)]
    · rw [if_neg (by omega), if_neg (by omega)]
      congr 2
      omega
/-- What through finds in memory between its steps. -/
structure OutB (w W : World) (Q : Nat) (A A2 : Option Addr) (n c : Nat) (xs ys L : List Nat) : Prop where
  cq : W.cell? ⟨w.heap.size, 0, none⟩ = some (.string (B Q))
  cx : W.cell? ⟨w.heap.size + 1, 0, none⟩ = some (.slice A n c)
  row : RowN W (w.heap.size + 1 + 1) L
  bel : Below w.heap.size w W
  lt : w.heap.size + 1 + 1 < W.heap.size
  sx : SLs W w.heap.size A (xs.map B)
  sy : SLs W w.heap.size A2 (ys.map B)
section
variable {w W W' : World} {Q : Nat} {A A2 : Option Addr} {n c : Nat} {xs ys L : List Nat}
theorem OutB.below {b : Nat} (h : OutB w W Q A A2 n c xs ys L) (hb : Below b W W') (h1 : w.heap.size + 1 + 1 < b) (h2 : b ≤ W.heap.size) : OutB w W' Q A A2 n c xs ys L :=
  ⟨(hb.cell (p := ⟨w.heap.size, 0, none⟩) (by show w.heap.size < b; omega)).trans h.cq, (hb.cell (p := ⟨w.heap.size + 1, 0, none⟩) (by show w.heap.size + 1 < b; omega)).trans h.cx, h.row.below h1 hb, h.bel.trans (hb.mono (by omega)), Nat.lt_of_lt_of_le h.lt hb.size,
    h.sx.next (by omega) hb, h.sy.next (by omega) hb⟩
theorem OutB.next (h : OutB w W Q A A2 n c xs ys L) (hb : Below W.heap.size W W') : OutB w W' Q A A2 n c xs ys L := h.below hb h.lt (Nat.le_refl _)
theorem OutB.drew (h : OutB w W Q A A2 n c xs ys L) : OutB w W.drew Q A A2 n c xs ys L := h.next (Below.refl _ _).drew
theorem OutB.set {k v : Nat} (h : OutB w W Q A A2 n c xs ys L) (hk : k < L.length) : OutB w (W.setCell ⟨w.heap.size + 1 + 1, k, none⟩ (.string (B v))) Q A A2 n c xs ys (L.set k v) := by
  have hsl : ∀ (A' : Option Addr) (vals : List ByteArray), SLs W w.heap.size A' vals → SLs (W.setCell ⟨w.heap.size + 1 + 1, k, none⟩ (.string (B v))) w.heap.size A' vals := by
    intro A' vals hs hne
    obtain ⟨ad, e, hb', hc⟩ := hs hne
    refine ⟨ad, e, hb', fun j hj => ?_⟩
    rw [far1 (by rw [ad_block]; show w.heap.size + 1 + 1 ≠ ad.block; omega)]
    exact hc j hj
  refine ⟨?_, ?_, h.row.set hk, h.bel.setCell (by show w.heap.size ≤ w.heap.size + 1 + 1; omega) _, by simpa using h.lt, hsl _ _ h.sx, hsl _ _ h.sy⟩
  · rw [far1 (by show w.heap.size + 1 + 1 ≠ w.heap.size; omega)]; exact h.cq
  · rw [far1 (by show w.heap.size + 1 + 1 ≠ w.heap.size + 1; omega)]; exact h.cx
end
theorem TmB.far {W : World} {lo P Qb Xb Ib Sb Q gp m : Nat} {A : Option Addr} {n c : Nat} {xs : List Nat} {i s : Nat} {p : List Nat} (h : TmB W lo P Qb Xb Ib Sb Q gp m A n c xs i s p) {b k : Nat} {v : Value}
    (h1 : b ≠ Qb) (h2 : b ≠ Xb) (h3 : b ≠ Ib) (h4 : b ≠ P) (h5 : b ≠ Sb) (h6 : b ≠ gp) (hs : SLs (W.setCell ⟨b, k, none⟩ v) lo A (xs.map B)) : TmB (W.setCell ⟨b, k, none⟩ v) lo P Qb Xb Ib Sb Q gp m A n c xs i s p := by
  obtain ⟨cp, cq, cx, ci, cs, fp, fs, row, sl, hq, hx, hi, hP, hS, hPS, hPg, hSg⟩ := h
  refine ⟨?_, ?_, ?_, ?_, ?_, (World.frozen?_setCell _ _ _ _).trans fp, (World.frozen?_setCell _ _ _ _).trans fs, row.far (by show b ≠ gp; exact h6) _, hs, hq, hx, hi, hP, hS, hPS, hPg, hSg⟩
  · rw [far1 (by show b ≠ P; exact h4)]; exact cp
  · rw [far1 (by show b ≠ Qb; exact h1)]; exact cq
  · rw [far1 (by show b ≠ Xb; exact h2)]; exact cx
  · rw [far1 (by show b ≠ Ib; exact h3)]; exact ci
  · rw [far1 (by show b ≠ Sb; exact h5)]; exact cs
theorem polyP_len {q : Nat} {xs : List Nat} {i k n : Nat} (hk : k ≤ n) : (polyP q xs i k).1.length ≤ n + 1 := by
  rw [polyP_length]; split <;> omega
theorem outL_next {q : Nat} {xs ys : List Nat} {i j f : Nat} (hi : i < xs.length) (hj : j < xs.length) (hf : f = ys.getD i 0 * invM (polyP q xs i xs.length).2 q % q) :
    (outL q xs ys (i + 1)).getD j 0 = ((outL q xs ys i).getD j 0 + (polyP q xs i xs.length).1.getD j 0 * f % q) % q := by
  rw [outL, ← hf, getD_zip (by rw [outL_length q xs ys i (by omega)]; exact hj) (by rw [polyP_full q xs i hi]; exact hj) 0 0 0]
theorem stp64 {i n : Nat} (h : i < n) (hn : n ≤ 900) : Value.int .i64 (wrap64 ((i : Int) + 1)) = .int .i64 ((i + 1 : Nat) : Int) := by
  rw [IntWalk.wrap64_in _ (by omega)]; rfl
theorem mes64 {i n : Nat} (h : i < n) (hn : n ≤ 900) : n - (intOf (.int .i64 (wrap64 ((i : Int) + 1)))).toNat < n - (intOf (.int .i64 (i : Int))).toNat := by
  rw [IntWalk.wrap64_in _ (by omega)]
  show n - ((i : Int) + 1).toNat < n - (i : Int).toNat
  omega
theorem sls_val {W : World} {b : Nat} {A : Option Addr} {xs : List Nat} {k : Nat} (h : SLs W b A (xs.map B)) (hk : k < xs.length) : ∃ ad, A = some ad ∧ W.cell? (ad.add k) = some (.string (B (xs.getD k 0))) := by
  obtain ⟨ad, e, hc⟩ := h.at_ (k := k) (by rw [List.length_map]; exact hk)
  rw [map_B_getD xs hk] at hc
  exact ⟨ad, e, hc⟩
theorem nget_lt {l : List Nat} {q k : Nat} (h : ∀ a ∈ l, a < q) (hk : k < l.length) : l.getD k 0 < q := by
  rw [← List.getElem_eq_getD (h := hk)]; exact h _ (List.getElem_mem hk)
theorem shamir_through (Q : Nat) (xs ys : List Nat) (A A2 : Option Addr) (n c c2 : Nat) (w : World) (hQ : Q < 18446744073709551616) (h2 : 2 ≤ Q) (hxs : ∀ a ∈ xs, a < Q) (hys : ∀ a ∈ ys, a < Q) (hn : xs.length = n) (hy : ys.length = n) (hm : n ≤ 900)
    (h : SLs w w.heap.size A (xs.map B)) (h' : SLs w w.heap.size A2 (ys.map B)) :
    Calls Tryz.prog 35 #[.string (B Q), .slice A n c, .slice A2 n c2] w fun e w' => e = .returned (.slice (some ⟨w.heap.size + 1 + 1, 0, none⟩) n n) ∧ RowN w' (w.heap.size + 1 + 1) (thruL Q xs ys) ∧ Below w.heap.size w w' := by
  have hmk := make_strs n (by omega)
  have HQ := Lib.hid (And.intro hQ (And.intro h2 (show 0 < Q by omega)))
  have HX := Lib.hid (And.intro hxs hys)
  have HN := Lib.hid (And.intro hn (And.intro hy hm))
  have hst : OutB w (((w.alloc (.cells #[.string (B Q)] 25)).alloc (.cells #[.slice A n c] 28)).alloc (.cells (List.replicate n (Value.string ByteArray.empty)).toArray 25)) Q A A2 n c xs ys (outL Q xs ys 0) := by
    have hb : Below w.heap.size w (((w.alloc (.cells #[.string (B Q)] 25)).alloc (.cells #[.slice A n c] 28)).alloc (.cells (List.replicate n (Value.string ByteArray.empty)).toArray 25)) := (below_res w _ _).alloc (by simp; omega) _
    refine ⟨by simp [go_sem], by simp [go_sem], ?_, hb, by simp, h.below hb, h'.below hb⟩
    have := RowN.made ((w.alloc (.cells #[.string (B Q)] 25)).alloc (.cells #[.slice A n c] 28)) n 25
    rw [World.size_alloc, World.size_alloc] at this
    have e : outL Q xs ys 0 = List.replicate n 0 := by rw [← hn]; rfl
    rw [e]
    exact this
  have HST := Lib.hid hst
  clear hst h h' hQ h2 hxs hys hn hy hm
  go_enter Tryz.func35, Tryz.ntmps35
  go_wp2_with fail
  clear hmk
  go_loopw [27] (fun v wr => ∃ i : Nat, v = .int .i64 i ∧ i ≤ n ∧ OutB w wr Q A A2 n c xs ys (outL Q xs ys i)) (fun v _ => n - (intOf v).toNat)
  case atStart => exact ⟨0, rfl, Nat.zero_le _, HST.out⟩
  case round =>
    clear HST
    rename World => w0
    obtain ⟨i, rfl, hi, hob⟩ := hrel
    have HO := Lib.hid hob
    by_cases hlt : i < n
    · have KOF := Lib.hid (fun w => natural_Of' 1 1 w rfl (by decide))
      have KOF1 := Lib.hid (natural_Of' 1 1 (w0.alloc (.cells #[.int .i64 i] 3)) rfl (by decide))
      have HLT := Lib.hid hlt
      have j1 : decide (i < n) = true := decide_eq_true hlt
      clear hob hi hlt
      go_upto_region 6 with (first
        | (go_at_call 26; (with_reducible refine KOF1.out.mono ?_); rintro e w1 ⟨rfl, hb1⟩; have HB1 := Lib.hid hb1; clear hb1)
        | (go_at_call 26; (with_reducible refine (KOF.out _).mono ?_); rintro e w2 ⟨rfl, hb2⟩; have HB2 := Lib.hid hb2; clear hb2))
      go_cut [8, 9, 10, 11] (fun a b e f wx => ∃ P, a = .pointer (some ⟨w0.heap.size, 0, none⟩) ∧ b = .pointer (some ⟨P, 0, none⟩) ∧ e = .pointer (some ⟨P + 1, 0, none⟩) ∧
        f = .func (.func 51) #[] #[.pointer (some ⟨P, 0, none⟩), .pointer (some ⟨w.heap.size, 0, none⟩), .pointer (some ⟨w.heap.size + 1, 0, none⟩), .pointer (some ⟨w0.heap.size, 0, none⟩), .pointer (some ⟨P + 1, 0, none⟩)] ∧
        (∃ g, w0.heap.size + 1 ≤ g ∧ TmB wx (w0.heap.size + 1) P w.heap.size (w.heap.size + 1) w0.heap.size (P + 1) Q g 1 A n c xs i 1 [1]) ∧ OutB w wx Q A A2 n c xs ys (outL Q xs ys i))
      case first =>
        go_wp2_with fail
        go_meet
        have hz1 := HB1.out.size
        rw [World.size_alloc] at hz1
        have hz2 := HB2.out.size
        rw [World.size_alloc] at hz2
        have hlt := HO.out.lt
        have hb3 : Below (w0.heap.size + 1) (w0.alloc (.cells #[.int .i64 i] 3)) ((w2.alloc (.cells #[.slice (some ⟨w1.heap.size, 0, none⟩) 1 1] 28)).alloc (.cells #[.string (B 1)] 25)) := by
          have h1 : Below (w0.heap.size + 1) (w0.alloc (.cells #[.int .i64 i] 3)) w1 := HB1.out.mono (by rw [World.size_alloc]; exact Nat.le_refl _)
          have h3 : Below (w0.heap.size + 1) (w1.alloc (.cells #[.string (B 1)] 25)) w2 := HB2.out.mono (by rw [World.size_alloc]; omega)
          exact (((h1.alloc (by omega) _).trans h3).alloc (by omega) _).alloc (by rw [World.size_alloc]; omega) _
        have hb4 : Below w0.heap.size w0 ((w2.alloc (.cells #[.slice (some ⟨w1.heap.size, 0, none⟩) 1 1] 28)).alloc (.cells #[.string (B 1)] 25)) := ((Below.refl _ _).alloc (Nat.le_refl _) _).trans (hb3.mono (Nat.le_succ _))
        have ho := HO.out.next hb4
        have hr1 : RowN ((w2.alloc (.cells #[.slice (some ⟨w1.heap.size, 0, none⟩) 1 1] 28)).alloc (.cells #[.string (B 1)] 25)) w1.heap.size [1] := by
          have h0 : RowN (w1.alloc (.cells #[.string (B 1)] 25)) w1.heap.size [1] := by
            intro j hj
            have : j = 0 := by simp at hj; omega
            subst this
            exact ⟨by simp [go_sem], by simp [go_sem]⟩
          have h5 : Below w2.heap.size w2 ((w2.alloc (.cells #[.slice (some ⟨w1.heap.size, 0, none⟩) 1 1] 28)).alloc (.cells #[.string (B 1)] 25)) := below_res w2 _ _
          exact (h0.next HB2.out).next h5
        refine ⟨w2.heap.size, rfl, rfl, rfl, rfl, ⟨w1.heap.size, by omega, ?_⟩, ho⟩
        refine ⟨by simp [go_sem], ho.cq, ho.cx, ?_, by simp [go_sem], by simp [go_sem], by simp [go_sem], hr1, ho.sx.more (by omega), by omega, by omega, by omega, by omega, by omega, by omega, by omega, by omega⟩
        exact (hb3.cell (p := ⟨w0.heap.size, 0, none⟩) (by show w0.heap.size < _; omega)).trans (by simp [go_sem])
      case rest =>
        obtain ⟨P, rfl, rfl, rfl, rfl, ⟨g, hg, htm⟩, hob⟩ := hcut
        have HTM := Lib.hid htm
        have HO1 := Lib.hid hob
        have cx := htm.cx
        obtain ⟨lo, hlo⟩ : ∃ lo, w0.heap.size + 1 = lo := ⟨_, rfl⟩
        have HW0 := Lib.hid HO.out.lt
        have HLO := Lib.hid (And.intro hlo (And.intro (show w.heap.size + 1 + 1 < lo by have := HO.out.lt; omega) (show lo ≤ g by omega)))
        rw [hlo] at HTM
        clear htm hob hlo hg
        go_upto_region 7 with fail
        go_wp2_with fail
        go_loopw [36] (fun v wk => ∃ k g m : Nat, v = .int .i64 k ∧ k ≤ n ∧ lo ≤ g ∧ m = (polyP Q xs i k).1.length ∧ TmB wk lo P w.heap.size (w.heap.size + 1) w0.heap.size (P + 1) Q g m A n c xs i (polyP Q xs i k).2 (polyP Q xs i k).1 ∧ OutB w wk Q A A2 n c xs ys (outL Q xs ys i)) (fun v _ => n - (intOf v).toNat)
        case atStart => exact ⟨0, g, 1, rfl, Nat.zero_le _, HLO.out.2.2, rfl, HTM.out, HO1.out⟩
        case round =>
          clear HTM HO1
          obtain ⟨k, g, m, rfl, hk, hg, hm, htm, hob⟩ := hrel
          have HT := Lib.hid htm
          have HO1 := Lib.hid hob
          have HM := Lib.hid hm
          have HG := Lib.hid hg
          by_cases hlt : k < n
          · obtain ⟨ad, rfl, hcx⟩ := sls_val htm.sl (k := k) (by rw [HN.out.1]; exact hlt)
            obtain ⟨x, hx⟩ : ∃ x, x = xs.getD k 0 := ⟨_, rfl⟩
            rw [← hx] at hcx
            have ci := htm.ci
            have k1 : decide (k < n) = true := decide_eq_true hlt
            have hpl := polyP_lt HQ.out.2.1 xs i k
            have hml : m ≤ 1000 := by have := polyP_len (q := Q) (xs := xs) (i := i) (k := k) (n := n) hk; have := HN.out.2.2; omega
            have hxQ : x < Q := by rw [hx]; exact nget_lt HX.out.1 (by rw [HN.out.1]; exact hlt)
            have hih := HLT.out
            have hnn := HN.out
            have hQQ := HQ.out
            have hXX := HX.out
            have KT := Lib.hid (through_times lo P w.heap.size (w.heap.size + 1) w0.heap.size (P + 1) Q g m (some ad) n c xs i (polyP Q xs i k).2 x (polyP Q xs i k).1 wr hm.symm hml hnn.1 hih (by omega) hQQ.1 hQQ.2.2 hpl.1 hXX.1 (by have := hpl.2; omega) hxQ htm)
            have HK := Lib.hid (And.intro hx (And.intro hlt (show lo ≤ wr.heap.size from htm.lt)))
            clear htm hob hk hm hg hpl hml hxQ hih hnn hQQ hXX hx
            by_cases hki : k = i
            · have k2 : ((k : Int) != (i : Int)) = false := by rw [hki]; simp
              have k3 : ((k : Int) == (i : Int)) = true := by rw [hki]; simp
              have HKI := Lib.hid hki
              clear hki
              go_wp2_with fail
              go_roundw
              case rel => exact ⟨k + 1, g, m, stp64 HK.out.2.1 HN.out.2.2, HK.out.2.1, HG.out, by have e := HKI.out; subst e; rw [polyP_succ_eq]; exact HM.out, by have e := HKI.out; subst e; rw [polyP_succ_eq]; exact HT.out, HO1.out⟩
              case measure => exact mes64 HK.out.2.1 HN.out.2.2
            · have k2 : ((k : Int) != (i : Int)) = true := by simp; omega
              have k3 : ((k : Int) == (i : Int)) = false := by simp; omega
              have HKI := Lib.hid hki
              clear hki
              go_wp2_with (first
                | (go_at_call 51; (with_reducible refine KT.out.mono ?_); rintro e w4 ⟨rfl, ht4, hb4⟩
                   have HT4 := Lib.hid ht4
                   have HO4 := Lib.hid (HO1.out.below hb4 HLO.out.2.1 HK.out.2.2)
                   clear ht4 hb4))
              go_roundw
              case rel =>
                refine ⟨k + 1, wr.heap.size, m + 1, stp64 HK.out.2.1 HN.out.2.2, HK.out.2.1, HK.out.2.2, ?_, ?_, HO4.out⟩
                · rw [polyP_succ_ne HKI.out, HM.out]; exact (mulX_length _ _ _).symm
                · rw [polyP_succ_ne HKI.out, ← HK.out.1]; exact HT4.out
              case measure => exact mes64 HK.out.2.1 HN.out.2.2
          · obtain rfl : k = n := by omega
            have k1 : decide (k < k) = false := decide_eq_false (Nat.lt_irrefl _)
            have hxl := HN.out.1
            obtain ⟨sc, hsc⟩ : ∃ sc, sc = (polyP Q xs i k).2 := ⟨_, rfl⟩
            obtain ⟨p, hp⟩ : ∃ p, p = (polyP Q xs i k).1 := ⟨_, rfl⟩
            have hpl := polyP_lt HQ.out.2.1 xs i k
            rw [← hsc, ← hp] at htm hpl HT
            rw [← hp] at hm
            have hpk : p.length = k := by rw [hp, ← hxl]; exact polyP_full Q xs i (by rw [hxl]; exact HLT.out)
            have hmk : m = k := by rw [hm, hpk]
            subst hmk
            obtain ⟨iv, hiv⟩ : ∃ iv, iv = invM sc Q := ⟨_, rfl⟩
            have hivQ : iv < Q := by
              rw [hiv]
              unfold invM
              cases hf : (List.range Q).find? (fun x => sc * x % Q == 1 % Q) with
              | none => exact HQ.out.2.2
              | some y => exact List.mem_range.1 (List.mem_of_find?_eq_some hf)
            have KI := Lib.hid (fun w => modular_Inverse sc Q w (Nat.lt_trans hpl.2 HQ.out.1) HQ.out.1 HQ.out.2.1)
            rw [← hiv] at KI
            obtain ⟨ad2, hA2, hcy⟩ := sls_val hob.sy (k := i) (by rw [HN.out.2.1]; exact HLT.out)
            subst hA2
            obtain ⟨yv, hyv⟩ : ∃ yv, yv = ys.getD i 0 := ⟨_, rfl⟩
            have hyvQ : yv < Q := by rw [hyv]; exact nget_lt HX.out.2 (by rw [HN.out.2.1]; exact HLT.out)
            rw [← hyv] at hcy
            obtain ⟨f, hf⟩ : ∃ f, f = yv * iv % Q := ⟨_, rfl⟩
            have hfQ : f < Q := by rw [hf]; exact Nat.mod_lt _ HQ.out.2.2
            have KM := Lib.hid (fun w => modular_Mul yv iv Q w (Nat.lt_trans hyvQ HQ.out.1) (Nat.lt_trans hivQ HQ.out.1) HQ.out.1 HQ.out.2.2)
            rw [← hf] at KM
            have hff : f = ys.getD i 0 * invM (polyP Q xs i xs.length).2 Q % Q := by rw [hf, hyv, hiv, hsc, hxl]
            have HF := Lib.hid (And.intro hff (And.intro hfQ (show p = (polyP Q xs i xs.length).1 by rw [hp, hxl])))
            have HP := Lib.hid (And.intro hpk hpl.1)
            have cq := htm.cq
            have cs := htm.cs
            have ci := htm.ci
            have i1 : (i : Int) < (m : Int) := by have := HLT.out; omega
            have i2 : (0 : Int) ≤ (i : Int) := by omega
            have HHL := Lib.hid (show lo ≤ wr.heap.size from htm.lt)
            clear htm hob hk hm hg hlt hpl hxl hsc hp hpk hiv hivQ hyv hyvQ hf hfQ hff HM
            go_upto_region 14 with (first
              | (go_at_call 53; (with_reducible refine (KI.out _).mono ?_); rintro e w4 ⟨⟨er, rfl⟩, hb4⟩
                 have HT4 := Lib.hid (HT.out.next hb4)
                 have HO4 := Lib.hid (HO1.out.next hb4)
                 have hcy := (hb4.cell (p := ad2.add i) (cell_in hcy)).trans hcy
                 have cq := HT4.out.cq
                 have ci := HT4.out.ci
                 have cs := HT4.out.cs
                 clear hb4))
            go_cut [16] (fun a wx => a = .string (B f) ∧ TmB wx lo P w.heap.size (w.heap.size + 1) w0.heap.size (P + 1) Q g m A m c xs i sc p ∧ OutB w wx Q A (some ad2) m c xs ys (outL Q xs ys i))
            case first =>
              go_region_held3 (fun w' => w'.cell? ⟨w0.heap.size, 0, none⟩ = some (.int .i64 i) ∧ w'.cell? (ad2.add i) = some (.string (B yv)) ∧ w'.cell? ⟨w.heap.size, 0, none⟩ = some (.string (B Q))) (first | go_keep) (first
                | (go_at_call 49; (with_reducible refine (KM.out _).mono ?_); rintro e w5 ⟨rfl, hb5⟩
                   have HB5 : Hid (Below w4.heap.size w4 w5) := by first | exact Lib.hid hb5 | exact Lib.hid (((Below.refl _ w4).drew).trans hb5)
                   have HT5 := Lib.hid (HT4.out.next HB5.out)
                   have HO5 := Lib.hid (HO4.out.next HB5.out)
                   have hcy := (HB5.out.cell (p := ad2.add i) (cell_in hcy)).trans hcy
                   have cq := HT5.out.cq
                   have ci := HT5.out.ci
                   clear hb5))
              all_goals
                go_wp2_with fail
                go_meet
                first | exact ⟨rfl, HT5.out, HO5.out⟩ | exact ⟨rfl, HT5.out.drew, HO5.out.drew⟩
            case rest =>
              obtain ⟨rfl, ht6, ho6⟩ := hcut
              have HT6 := Lib.hid ht6
              have HO6 := Lib.hid ho6
              have cp := ht6.cp
              clear ht6 ho6 cq cs ci hcy i1 i2
              obtain ⟨NL, hNL⟩ : ∃ NL, NL = outL Q xs ys (i + 1) := ⟨_, rfl⟩
              obtain ⟨OL, hOL⟩ : ∃ OL, OL = outL Q xs ys i := ⟨_, rfl⟩
              have hlN : NL.length = m := by rw [hNL, outL_length Q xs ys (i + 1) (by rw [HN.out.1]; exact HLT.out), HN.out.1]
              have hlO : OL.length = m := by rw [hOL, outL_length Q xs ys i (by rw [HN.out.1]; have := HLT.out; omega), HN.out.1]
              have hlN2 := outL_lt HQ.out.2.2 xs ys (i + 1)
              have hlO2 := outL_lt HQ.out.2.2 xs ys i
              rw [← hNL] at hlN2
              rw [← hOL] at hlO2
              have hstep : ∀ j, j < m → NL.getD j 0 = (OL.getD j 0 + p.getD j 0 * f % Q) % Q := by
                intro j hj
                rw [hNL, hOL, outL_next (by rw [HN.out.1]; exact HLT.out) (by rw [HN.out.1]; exact hj) HF.out.1, ← HF.out.2.2]
              have HNL := Lib.hid hNL
              have HL := Lib.hid (And.intro hlN (And.intro hlO (And.intro hlN2 hlO2)))
              have HSTEP := Lib.hid hstep
              rw [← hOL] at HO6
              clear hNL hOL hlN hlO hlN2 hlO2 hstep
              go_wp2_with fail
              go_loopw [66] (fun v wj => ∃ j : Nat, v = .int .i64 j ∧ j ≤ m ∧ TmB wj lo P w.heap.size (w.heap.size + 1) w0.heap.size (P + 1) Q g m A m c xs i sc p ∧ OutB w wj Q A (some ad2) m c xs ys (NL.take j ++ OL.drop j)) (fun v _ => m - (intOf v).toNat)
              case atStart => exact ⟨0, rfl, Nat.zero_le _, HT6.out, by simpa using HO6.out⟩
              case round =>
                clear HT6 HO6
                obtain ⟨j, rfl, hj, htm, hob⟩ := hrel
                have HT := Lib.hid htm
                have HO := Lib.hid hob
                by_cases hlt : j < m
                · have j1 : decide (j < m) = true := decide_eq_true hlt
                  have c0 := (htm.row j (by rw [HP.out.1]; exact hlt)).1
                  have cq := htm.cq
                  obtain ⟨d, hd⟩ : ∃ d, d = p.getD j 0 := ⟨_, rfl⟩
                  have hdQ : d < Q := by rw [hd]; exact nget_lt HP.out.2 (by rw [HP.out.1]; exact hlt)
                  have hll : (NL.take j ++ OL.drop j).length = m := by rw [List.length_append, List.length_take, List.length_drop, HL.out.1, HL.out.2.1]; omega
                  have r0 := hob.row j (by rw [hll]; exact hlt)
                  have hoj : (NL.take j ++ OL.drop j).getD j 0 = OL.getD j 0 := by
                    have htl : (NL.take j).length = j := by rw [List.length_take, HL.out.1]; omega
                    rw [List.getD_eq_getElem?_getD, List.getD_eq_getElem?_getD, List.getElem?_append_right (by omega), htl, Nat.sub_self, List.getElem?_drop, Nat.add_zero]
                  rw [hoj] at r0
                  obtain ⟨r0c, r0f⟩ := r0
                  obtain ⟨u, hu⟩ : ∃ u, u = OL.getD j 0 := ⟨_, rfl⟩
                  have huQ : u < Q := by rw [hu]; exact nget_lt HL.out.2.2.2 (by rw [HL.out.2.1]; exact hlt)
                  rw [← hu] at r0c
                  rw [← hd] at c0
                  obtain ⟨y, hy⟩ : ∃ y, y = d * f % Q := ⟨_, rfl⟩
                  have hyQ : y < Q := by rw [hy]; exact Nat.mod_lt _ HQ.out.2.2
                  have KM2 := Lib.hid (fun w => modular_Mul d f Q w (Nat.lt_trans hdQ HQ.out.1) (Nat.lt_trans HF.out.2.1 HQ.out.1) HQ.out.1 HQ.out.2.2)
                  have KA := Lib.hid (fun w => modular_Add u y Q w (Nat.lt_trans huQ HQ.out.1) (Nat.lt_trans hyQ HQ.out.1) HQ.out.1 HQ.out.2.2)
                  obtain ⟨z, hz⟩ : ∃ z, z = (u + y) % Q := ⟨_, rfl⟩
                  rw [← hy] at KM2
                  rw [← hz] at KA
                  have hzN : z = NL.getD j 0 := by rw [HSTEP.out j hlt, hz, hu, hy, hd]
                  have HPUT : Hid (∀ W, OutB w W Q A (some ad2) m c xs ys (NL.take j ++ OL.drop j) → OutB w (W.setCell ⟨w.heap.size + 1 + 1, j, none⟩ (.string (B z))) Q A (some ad2) m c xs ys (NL.take (j + 1) ++ OL.drop (j + 1))) := Lib.hid (fun W h => by
                    rw [← take_set (by rw [HL.out.1, HL.out.2.1]) (by rw [HL.out.1]; exact hlt), ← hzN]
                    exact h.set (by rw [hll]; exact hlt))
                  have HTP : Hid (∀ W, OutB w (W.setCell ⟨w.heap.size + 1 + 1, j, none⟩ (.string (B z))) Q A (some ad2) m c xs ys (NL.take (j + 1) ++ OL.drop (j + 1)) → TmB W lo P w.heap.size (w.heap.size + 1) w0.heap.size (P + 1) Q g m A m c xs i sc p → TmB (W.setCell ⟨w.heap.size + 1 + 1, j, none⟩ (.string (B z))) lo P w.heap.size (w.heap.size + 1) w0.heap.size (P + 1) Q g m A m c xs i sc p) := Lib.hid (fun W ho h => by
                    have h1 := HLO.out.1
                    have h2 := HLO.out.2.1
                    have h3 := h.hP
                    have h4 := HG.out
                    have h5 := HW0.out
                    exact h.far (by omega) (by omega) (by omega) (by omega) (by omega) (by omega) (ho.sx.more (by omega)))
                  have HLJ := Lib.hid hlt
                  have i4 : (j : Int) < (m : Int) := by omega
                  have i5 : (0 : Int) ≤ (j : Int) := by omega
                  clear htm hob hj hd hdQ hll hoj hu huQ hy hyQ hz hzN
                  go_upto_region 19 with (first
                    | (go_at_call 49; (with_reducible refine (KM2.out _).mono ?_); rintro e w7 ⟨rfl, hb7⟩
                       have HT7 := Lib.hid (HT.out.next hb7)
                       have HO7 := Lib.hid (HO.out.next hb7)
                       have r0f := (hb7.frozen (p := ⟨w.heap.size + 1 + 1, j, none⟩) (cell_in r0c)).trans r0f
                       have r0c := (hb7.cell (p := ⟨w.heap.size + 1 + 1, j, none⟩) (cell_in r0c)).trans r0c
                       have cq := HT7.out.cq
                       clear hb7))
                  go_region_with (first
                    | (go_at_call 50; (with_reducible refine (KA.out _).mono ?_); rintro e w8 ⟨rfl, hb8⟩
                       have HB8 : Hid (Below w7.heap.size w7 w8) := by first | exact Lib.hid hb8 | exact Lib.hid (((Below.refl _ w7).drew).trans hb8)
                       have HT8 := Lib.hid (HT7.out.next HB8.out)
                       have HO8 := Lib.hid (HO7.out.next HB8.out)
                       have r0f := (HB8.out.frozen (p := ⟨w.heap.size + 1 + 1, j, none⟩) (cell_in r0c)).trans r0f
                       have r0c := (HB8.out.cell (p := ⟨w.heap.size + 1 + 1, j, none⟩) (cell_in r0c)).trans r0c
                       have cq := HT8.out.cq
                       clear hb8))
                  all_goals
                    go_wp2_with fail
                    go_roundw
                    case rel =>
                      first
                        | (have ho := HPUT.out _ HO8.out; exact ⟨j + 1, stp64 HLJ.out HN.out.2.2, HLJ.out, HTP.out _ ho HT8.out, ho⟩)
                        | (have ho := HPUT.out _ HO8.out.drew; exact ⟨j + 1, stp64 HLJ.out HN.out.2.2, HLJ.out, HTP.out _ ho HT8.out.drew, ho⟩)
                        | (have ho := HPUT.out _ HO8.out; exact ⟨j + 1, stp64 HLJ.out HN.out.2.2, HLJ.out, (HTP.out _ ho HT8.out).drew, ho.drew⟩)
                    case measure => exact mes64 HLJ.out HN.out.2.2
                · obtain rfl : j = m := by omega
                  have j1 : decide (j < j) = false := decide_eq_false (Nat.lt_irrefl _)
                  have e : NL.take j ++ OL.drop j = NL := by rw [← HL.out.1, List.take_length, List.drop_of_length_le (by rw [HL.out.1, HL.out.2.1]; exact Nat.le_refl _), List.append_nil]
                  rw [e, HNL.out] at hob
                  have HO := Lib.hid hob
                  clear htm hob hj hlt e
                  go_wp2_with fail
                  go_roundw
                  case rel => exact ⟨i + 1, stp64 HLT.out HN.out.2.2, HLT.out, HO.out⟩
                  case measure => exact mes64 HLT.out HN.out.2.2
    · obtain rfl : i = n := by omega
      have j1 : decide (i < i) = false := decide_eq_false (Nat.lt_irrefl _)
      clear hob hi hlt
      go_wp2_with fail
      go_ret
      refine ⟨rfl, ?_, HO.out.bel⟩
      unfold thruL
      rw [HN.out.1]
      exact HO.out.row

end Go.Proofs.YtapplggboepfaaaGreatDoor
