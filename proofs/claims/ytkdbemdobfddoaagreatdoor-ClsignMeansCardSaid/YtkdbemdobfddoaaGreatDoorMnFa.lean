/- The law ClsignMeans: the walk. Its words serve the other laws on settings too. -/
import Derived.Test.YtkdbemdobfddoaaGreatDoorMnEf
import Derived.Test.YtkdbemdobfddoaaGreatDoorKt
namespace Go.Proofs.YtkdbemdobfddoaaGreatDoor
open Go.RowKit
set_option maxRecDepth 100000
set_option linter.unusedVariables false
set_option maxHeartbeats 8000000
/-- The facts of a setting that is few. -/
theorem few_facts {ch sl mm mo mg mh wm wo wg wh se at_ ha el es bl ma nm m o z s u h P Q : ByteArray} {rs : List ByteArray} (hf : setFew ch sl mm mo mg mh wm wo wg wh se at_ ha el es bl ma nm m o z s u h P Q rs = true) :
    ((mm.size ≤ 8 ∧ mo.size ≤ 8 ∧ wm.size ≤ 8 ∧ at_.size ≤ 8) ∧ (el.size ≤ 8 ∧ es.size ≤ 8 ∧ bl.size ≤ 8)) ∧ (m.size ≤ 8 ∧ nm.size ≤ 60 ∧ rs.length ≤ 6) := by
  unfold setFew fewP fewK shS at hf
  simp only [List.all_cons, List.all_nil, Bool.and_true, Bool.and_eq_true, decide_eq_true_eq] at hf
  obtain ⟨⟨⟨h1, h2, _⟩, ⟨h3, _⟩, _, _, _, h4, _, h5, h6, h7, _⟩, ⟨⟨h8, _⟩, _, h9, _, h10⟩, _⟩ := hf
  exact ⟨⟨⟨h1, h2, h3, h4⟩, h5, h6, h7⟩, h8, h10, h9⟩
theorem list_len {ls : List ByteArray} (h : listS ls = true) : ls.length ≤ 8 := by
  unfold listS at h
  rw [Bool.and_eq_true, decide_eq_true_eq] at h
  exact h.1
/-- What a setting's parameters without error say. -/
theorem par_ok {ch sl mm mo mg mh wm wo wg wh se at_ ha el es bl ma : ByteArray} (h : parS ch sl mm mo mg mh wm wo wg wh se at_ ha el es bl ma = 0) :
    ((valid se = true ∧ valid ha = true ∧ valid at_ = true) ∧ valid el = true ∧ valid es = true ∧ valid bl = true) ∧ 2 ≤ num el ∧ 2 ≤ num es := by
  obtain ⟨h1, _, h3, _⟩ := parS_zero h
  simp only [List.all_cons, List.all_nil, Bool.and_true, Bool.and_eq_true] at h1
  unfold twoUp at h3
  simp only [List.all_cons, List.all_nil, Bool.and_true, Bool.and_eq_true, decide_eq_true_eq] at h3
  obtain ⟨_, _, a1, a2, a3, a4, a5, a6, _⟩ := h1
  obtain ⟨_, _, _, _, _, b1, b2, _⟩ := h3
  exact ⟨⟨⟨a1, a3, a2⟩, a4, a5, a6⟩, b1, b2⟩
/-- The boxes of the law: the setting, two lists, a signature. -/
structure MnB (w : World) (ss : Array Value) (A1 A2 AR : Option Addr) (n1 c1 n2 c2 : Nat) (sA sE sV : ByteArray) (rs l1 l2 : List ByteArray) (W : World) : Prop where
  set : W.heap[w.heap.size]? = some (.cells ss 37 (0, 0))
  two : W.heap[w.heap.size + 1]? = some (.cells #[.slice A1 n1 c1, .slice A2 n2 c2] 62 (0, 0))
  sig : W.heap[w.heap.size + 1 + 1]? = some (.cells #[.string sA, .string sE, .string sV] 57 (0, 0))
  r0 : SLs W w.heap.size AR rs
  r1 : SLs W w.heap.size A1 l1
  r2 : SLs W w.heap.size A2 l2
  bel : Below w.heap.size w W
section
variable {w W W' : World} {ss : Array Value} {A1 A2 AR : Option Addr} {n1 c1 n2 c2 : Nat} {sA sE sV : ByteArray} {rs l1 l2 : List ByteArray}
theorem MnB.lt (k : MnB w ss A1 A2 AR n1 c1 n2 c2 sA sE sV rs l1 l2 W) : w.heap.size + 1 + 1 < W.heap.size := (Array.getElem?_eq_some_iff.1 k.sig).1
theorem MnB.next (k : MnB w ss A1 A2 AR n1 c1 n2 c2 sA sE sV rs l1 l2 W) (hb : Below W.heap.size W W') : MnB w ss A1 A2 AR n1 c1 n2 c2 sA sE sV rs l1 l2 W' := by
  have l := k.lt
  exact ⟨(hb.block _ (by omega)).trans k.set, (hb.block _ (by omega)).trans k.two, (hb.block _ l).trans k.sig, k.r0.below (hb.mono k.bel.size), k.r1.below (hb.mono k.bel.size), k.r2.below (hb.mono k.bel.size), k.bel.trans (hb.mono k.bel.size)⟩
theorem MnB.alloc (k : MnB w ss A1 A2 AR n1 c1 n2 c2 sA sE sV rs l1 l2 W) (ob : Obj) : MnB w ss A1 A2 AR n1 c1 n2 c2 sA sE sV rs l1 l2 (W.alloc ob) := k.next ((Below.refl _ _).alloc (Nat.le_refl _) _)
theorem MnB.cells (k : MnB w ss A1 A2 AR n1 c1 n2 c2 sA sE sV rs l1 l2 W) : W.cell? ⟨w.heap.size + 1, 0, none⟩ = some (.slice A1 n1 c1) ∧ W.cell? ⟨w.heap.size + 1, 1, none⟩ = some (.slice A2 n2 c2) ∧
    W.cell? ⟨w.heap.size + 1 + 1, 0, none⟩ = some (.string sA) ∧ W.cell? ⟨w.heap.size + 1 + 1, 1, none⟩ = some (.string sE) ∧ W.cell? ⟨w.heap.size + 1 + 1, 2, none⟩ = some (.string sV) := by
  refine ⟨?_, ?_, ?_, ?_, ?_⟩ <;> simp [World.cell?, k.two, k.sig]
theorem MnB.start (w : World) (h0 : SLs w w.heap.size AR rs) (h1 : SLs w w.heap.size A1 l1) (h2 : SLs w w.heap.size A2 l2) :
    MnB w ss A1 A2 AR n1 c1 n2 c2 sA sE sV rs l1 l2 (((w.alloc (.cells ss 37)).alloc (.cells #[.slice A1 n1 c1, .slice A2 n2 c2] 62)).alloc (.cells #[.string sA, .string sE, .string sV] 57)) := by
  have hb : Below w.heap.size w (((w.alloc (.cells ss 37)).alloc (.cells #[.slice A1 n1 c1, .slice A2 n2 c2] 62)).alloc (.cells #[.string sA, .string sE, .string sV] 57)) := (((Below.refl _ _).alloc (Nat.le_refl _) _).alloc (by simp) _).alloc (by simp; omega) _
  have e0 := heap_alloc_new w (.cells ss 37)
  have e1 := heap_alloc_new (w.alloc (.cells ss 37)) (.cells #[.slice A1 n1 c1, .slice A2 n2 c2] 62)
  have e2 := heap_alloc_new ((w.alloc (.cells ss 37)).alloc (.cells #[.slice A1 n1 c1, .slice A2 n2 c2] 62)) (.cells #[.string sA, .string sE, .string sV] 57)
  simp only [World.size_alloc] at e1 e2
  exact ⟨(heap_alloc_old _ _ (by simp; omega)).trans ((heap_alloc_old _ _ (by simp)).trans e0), (heap_alloc_old _ _ (by simp)).trans e1, e2, h0.below hb, h1.below hb, h2.below hb, hb⟩
end
theorem cancel_unit {U m a b : Nat} (hc : Nat.gcd U m = 1) (h : U * a % m = U * b % m) : a % m = b % m := by
  have key : ∀ a b : Nat, a ≤ b → U * a % m = U * b % m → a % m = b % m := by
    intro a b hab h
    have h1 : m ∣ U * b - U * a := Nat.dvd_of_mod_eq_zero (Nat.sub_mod_eq_zero_of_mod_eq h.symm)
    rw [← Nat.mul_sub] at h1
    have h2 : m ∣ b - a := Nat.Coprime.dvd_of_dvd_mul_left (by rw [Nat.Coprime, Nat.gcd_comm]; exact hc) h1
    obtain ⟨k, hk⟩ := h2
    rw [show b = a + m * k by omega, Nat.add_mul_mod_self_left]
  rcases Nat.le_total a b with h1 | h1
  · exact key a b h1 h
  · exact (key b a h1 h.symm).symm
/-- The plain law: what Verify and Message answer for two lists. -/
theorem mean_law {K : Int} {nm m o z s u h se ha at_ el es bl sA sE sV : ByteArray} {P : Int} {rs l1 l2 : List ByteArray} (sm : m.size ≤ 8) (hK : K = keyE P nm m o z s u h rs)
    (h1 : verS K m o s z se ha at_ el es bl sA sE sV rs l1 = 0) :
    (∃ M, msgS K m se ha at_ rs l1 = (B M, 0) ∧ ((msgS K m se ha at_ rs l2).2 ≠ 0 ∧ verS K m o s z se ha at_ el es bl sA sE sV rs l2 = (msgS K m se ha at_ rs l2).2 ∨
      ∃ M2, msgS K m se ha at_ rs l2 = (B M2, 0) ∧ (M = M2 ∧ verS K m o s z se ha at_ el es bl sA sE sV rs l2 = 0 ∨ M ≠ M2 ∧ verS K m o s z se ha at_ el es bl sA sE sV rs l2 = 19))) := by
  by_cases h0 : K = 0
  · have hkey := keyE_zero (hK.symm.trans h0)
    subst h0
    unfold verS at h1
    rw [if_pos rfl] at h1
    by_cases hv : (l1.all valid && [sA, sE, sV].all valid) = true
    · rw [if_pos hv] at h1
      rw [Bool.and_eq_true] at hv
      obtain ⟨hv1, hvs⟩ := hv
      by_cases ha1 : attE se ha at_ rs l1 = 0
      · rw [if_pos ha1] at h1
        refine ⟨msgV m rs l1, by unfold msgS; rw [if_pos rfl, if_pos hv1, if_pos ha1], ?_⟩
        unfold verA at h1
        split at h1
        · rename_i hrg
          split at h1
          · rename_i hp2
            split at h1
            · rename_i hp1
              split at h1
              · rename_i hA
                split at h1
                · rename_i heq
                  by_cases hv2 : l2.all valid = true
                  · by_cases ha2 : attE se ha at_ rs l2 = 0
                    · right
                      refine ⟨msgV m rs l2, by unfold msgS; rw [if_pos rfl, if_pos hv2, if_pos ha2], ?_⟩
                      have hv2e : verS 0 m o s z se ha at_ el es bl sA sE sV rs l2 = if eqS m s z sA sE sV (msgV m rs l2) = true then 0 else 19 := by
                        unfold verS verA
                        rw [if_pos rfl, hv2, hvs, if_pos (by decide), if_pos ha2, if_pos hrg, if_pos hp2, if_pos hp1, if_pos hA]
                      rw [hv2e]
                      have hm0 : 0 < num m := by have := hkey.two; omega
                      have hM1 : msgV m rs l1 < num m := Nat.mod_lt _ hm0
                      have hM2 : msgV m rs l2 < num m := Nat.mod_lt _ hm0
                      generalize msgV m rs l1 = M1 at *
                      generalize msgV m rs l2 = M2 at *
                      have gA := gcd_of_has hkey.ho hA
                      have gs := gcd_of_has hkey.ho hkey.hs
                      have hform : ∀ M, msgV m [sA, s, B M] [sE, sV, B 1] = num sA ^ num sE * (num s ^ num sV * M) % num m := fun M => by
                        unfold msgV zipE
                        simp only [List.zipWith_cons_cons, List.zipWith_nil_right, pwE_cons, pwE_nil, num_B, Nat.pow_one, Nat.mul_one]
                      by_cases hMM : M1 = M2
                      · left
                        subst hMM
                        exact ⟨rfl, by rw [if_pos heq]⟩
                      · right
                        refine ⟨hMM, if_neg fun heq2 => hMM ?_⟩
                        have e1 := eq_of_beq heq
                        have e2 := eq_of_beq heq2
                        have e3 := e1.trans e2.symm
                        have e4 : B (msgV m [sA, s, B M1] [sE, sV, B 1]) = B (msgV m [sA, s, B M2] [sE, sV, B 1]) := by
                          rw [ByteArray.toList_eq, ByteArray.toList_eq] at e3
                          exact ByteArray.ext (Array.toList_inj.1 e3)
                        have e5 := B_inj e4
                        rw [hform, hform, ← Nat.mul_assoc, ← Nat.mul_assoc] at e5
                        have hc : Nat.gcd (num sA ^ num sE * num s ^ num sV) (num m) = 1 := Nat.Coprime.mul_left (Nat.Coprime.pow_left _ gA) (Nat.Coprime.pow_left _ gs)
                        generalize num sA ^ num sE * num s ^ num sV = U at e5 hc
                        have e6 := cancel_unit hc e5
                        rwa [Nat.mod_eq_of_lt hM1, Nat.mod_eq_of_lt hM2] at e6
                    · left
                      have e : msgS 0 m se ha at_ rs l2 = (⟨#[]⟩, attE se ha at_ rs l2) := by unfold msgS; rw [if_pos rfl, if_pos hv2, if_neg ha2]
                      rw [e]
                      refine ⟨ha2, ?_⟩
                      unfold verS
                      rw [if_pos rfl, hv2, hvs, if_pos (by decide), if_neg ha2]
                  · left
                    have e : msgS 0 m se ha at_ rs l2 = (⟨#[]⟩, 3) := by unfold msgS; rw [if_pos rfl, if_neg hv2]
                    rw [e]
                    refine ⟨by decide, ?_⟩
                    unfold verS
                    rw [if_pos rfl, if_neg (by rw [Bool.and_eq_true]; exact fun h => hv2 h.1)]
                · exact absurd h1 (by decide)
              · exact absurd h1 (by decide)
            · exact absurd h1 (by decide)
          · rename_i hp2
            exact absurd h1 hp2
        · exact absurd h1 (by decide)
      · rw [if_neg ha1] at h1
        exact absurd h1 ha1
    · rw [if_neg hv] at h1
      exact absurd h1 (by decide)
  · unfold verS at h1
    rw [if_neg h0] at h1
    exact absurd h1 h0
theorem law_means (ch sl mm mo mg mh wm wo wg wh se at_ ha el es bl ma nm m o z s u h P Q sA sE sV : ByteArray) (AR A1 A2 : Option Addr) (nR cR n1 c1 n2 c2 : Nat) (rs l1 l2 : List ByteArray) (w : World)
    (hnR : rs.length = nR) (hmR : nR ≤ maxLen) (hn1 : l1.length = n1) (hm1 : n1 ≤ maxLen) (hn2 : l2.length = n2) (hm2 : n2 ≤ maxLen) (h0 : SLs w w.heap.size AR rs) (h1 : SLs w w.heap.size A1 l1) (h2 : SLs w w.heap.size A2 l2) (hT : Tab w) (hT10 : Tab10 w) :
    Calls Tryz.prog 6 #[.agg #[.string ch, .string sl, .string mm, .string mo, .string mg, .string mh, .string wm, .string wo, .string wg, .string wh, .string se, .string at_, .string ha, .string el, .string es, .string bl, .string ma, .string nm, .string m, .string o, .string z, .string s, .slice AR nR cR, .string u, .string h, .string P, .string Q], .agg #[.slice A1 n1 c1, .slice A2 n2 c2], .agg #[.string sA, .string sE, .string sV]] w fun e w' => e = .returned (.bool true) ∧ Below w.heap.size w w' := by
  have KF := Lib.hid (fun wq hs hz => law30_few ch sl mm mo mg mh wm wo wg wh se at_ ha el es bl ma nm m o z s u h P Q AR nR cR w.heap.size rs wq hnR hmR hs hz)
  have KL1 := Lib.hid (fun wq hs => law30_list l1 A1 n1 c1 w.heap.size wq hn1 hm1 hs)
  have KL2 := Lib.hid (fun wq hs => law30_list l2 A2 n2 c2 w.heap.size wq hn2 hm2 hs)
  have KSH : Hid (∀ (wq : World) A1 b1, SLs wq b1 A1 [sA, sE, sV] → Calls Tryz.prog 18 #[.int .i64 16, .slice A1 3 3] wq fun e w' => e = .returned (.bool (shS 16 [sA, sE, sV])) ∧ wq = w') := Lib.hid (fun wq A1 b1 h1 => law30_short 16 [sA, sE, sV] A1 3 3 b1 wq (by omega) rfl (by unfold maxLen; omega) h1)
  have KAW := Lib.hid (fun wq (hb : Below w.heap.size w wq) => law30_awake wq (hT.below hb) (hT10.below hb))
  have HS := Lib.hid (MnB.start (ss := #[.string ch, .string sl, .string mm, .string mo, .string mg, .string mh, .string wm, .string wo, .string wg, .string wh, .string se, .string at_, .string ha, .string el, .string es, .string bl, .string ma, .string nm, .string m, .string o, .string z, .string s, .slice AR nR cR, .string u, .string h, .string P, .string Q]) (n1 := n1) (c1 := c1) (n2 := n2) (c2 := c2) (sA := sA) (sE := sE) (sV := sV) w h0 h1 h2)
  obtain ⟨W0, hW0⟩ : ∃ W0, (((w.alloc (.cells #[.string ch, .string sl, .string mm, .string mo, .string mg, .string mh, .string wm, .string wo, .string wg, .string wh, .string se, .string at_, .string ha, .string el, .string es, .string bl, .string ma, .string nm, .string m, .string o, .string z, .string s, .slice AR nR cR, .string u, .string h, .string P, .string Q] 37)).alloc (.cells #[.slice A1 n1 c1, .slice A2 n2 c2] 62)).alloc (.cells #[.string sA, .string sE, .string sV] 57)) = W0 := ⟨_, rfl⟩
  rw [hW0] at HS
  obtain ⟨q0, q1, v0, v1, v2⟩ := HS.out.cells
  have hff := @few_facts ch sl mm mo mg mh wm wo wg wh se at_ ha el es bl ma nm m o z s u h P Q rs
  have hl1 := @list_len l1
  have hl2 := @list_len l2
  obtain ⟨b1, hb1⟩ : ∃ b1, setFew ch sl mm mo mg mh wm wo wg wh se at_ ha el es bl ma nm m o z s u h P Q rs = b1 := ⟨_, rfl⟩
  obtain ⟨b2, hb2⟩ : ∃ b2, listS l1 = b2 := ⟨_, rfl⟩
  obtain ⟨b3, hb3⟩ : ∃ b3, listS l2 = b3 := ⟨_, rfl⟩
  obtain ⟨b4, hb4⟩ : ∃ b4, shS 16 [sA, sE, sV] = b4 := ⟨_, rfl⟩
  simp only [hb1] at KF
  rw [hb1] at hff
  simp only [hb2] at KL1
  rw [hb2] at hl1
  simp only [hb3] at KL2
  rw [hb3] at hl2
  simp only [hb4] at KSH
  have HFF := Lib.hid hff
  have HLL := Lib.hid (And.intro hl1 hl2)
  have HNN := Lib.hid (And.intro hnR (And.intro hn1 hn2))
  have HT := Lib.hid hT
  clear hb1 hb2 hb3 hb4 hff hl1 hl2 hnR hn1 hn2 hmR hm1 hm2 h0 h1 h2 hT hT10
  cases b1
  · go_enter Tryz.func6, Tryz.ntmps6
    go_wp2_with (first | (go_at_call 9; (with_reducible refine (KF.out _ HS.out.r0 HS.out.bel.size).mono ?_); rintro e wn ⟨rfl, hb⟩; have HY := Lib.hid (HS.out.next hb); obtain ⟨q0, q1, v0, v1, v2⟩ := HY.out.cells; clear hb HS; have HS := HY; clear HY) | (go_at_call 11; (with_reducible refine (KAW.out _ HS.out.bel).mono ?_); rintro e wn ⟨rfl, hb⟩; have HY := Lib.hid (HS.out.next hb); obtain ⟨q0, q1, v0, v1, v2⟩ := HY.out.cells; clear hb HS; have HS := HY; clear HY) | (with_reducible refine wpList_look ?_; refine wpList_load_row rfl 37 _ rfl _ rfl 37 #[.string ch, .string sl, .string mm, .string mo, .string mg, .string mh, .string wm, .string wo, .string wg, .string wh, .string se, .string at_, .string ha, .string el, .string es, .string bl, .string ma, .string nm, .string m, .string o, .string z, .string s, .slice AR nR cR, .string u, .string h, .string P, .string Q] (0, 0) _ HS.out.set Tryz.underlying37 rfl (c27.trans rfl) ?_))
    go_ret
    exact ⟨rfl, HS.out.bel⟩
  cases b2
  · go_enter Tryz.func6, Tryz.ntmps6
    go_wp2_with (first | (go_at_call 9; (with_reducible refine (KF.out _ HS.out.r0 HS.out.bel.size).mono ?_); rintro e wn ⟨rfl, hb⟩; have HY := Lib.hid (HS.out.next hb); obtain ⟨q0, q1, v0, v1, v2⟩ := HY.out.cells; clear hb HS; have HS := HY; clear HY) | (go_at_call 10; (with_reducible refine (KL1.out _ HS.out.r1).mono ?_); rintro e wn ⟨rfl, rfl⟩) | (go_at_call 11; (with_reducible refine (KAW.out _ HS.out.bel).mono ?_); rintro e wn ⟨rfl, hb⟩; have HY := Lib.hid (HS.out.next hb); obtain ⟨q0, q1, v0, v1, v2⟩ := HY.out.cells; clear hb HS; have HS := HY; clear HY) | (with_reducible refine wpList_look ?_; refine wpList_load_row rfl 37 _ rfl _ rfl 37 #[.string ch, .string sl, .string mm, .string mo, .string mg, .string mh, .string wm, .string wo, .string wg, .string wh, .string se, .string at_, .string ha, .string el, .string es, .string bl, .string ma, .string nm, .string m, .string o, .string z, .string s, .slice AR nR cR, .string u, .string h, .string P, .string Q] (0, 0) _ HS.out.set Tryz.underlying37 rfl (c27.trans rfl) ?_))
    go_ret
    exact ⟨rfl, HS.out.bel⟩
  cases b3
  · go_enter Tryz.func6, Tryz.ntmps6
    go_wp2_with (first | (go_at_call 9; (with_reducible refine (KF.out _ HS.out.r0 HS.out.bel.size).mono ?_); rintro e wn ⟨rfl, hb⟩; have HY := Lib.hid (HS.out.next hb); obtain ⟨q0, q1, v0, v1, v2⟩ := HY.out.cells; clear hb HS; have HS := HY; clear HY) | (go_at_call 10; (with_reducible refine (KL1.out _ HS.out.r1).mono ?_); rintro e wn ⟨rfl, rfl⟩) | (go_at_call 10; (with_reducible refine (KL2.out _ HS.out.r2).mono ?_); rintro e wn ⟨rfl, rfl⟩) | (go_at_call 11; (with_reducible refine (KAW.out _ HS.out.bel).mono ?_); rintro e wn ⟨rfl, hb⟩; have HY := Lib.hid (HS.out.next hb); obtain ⟨q0, q1, v0, v1, v2⟩ := HY.out.cells; clear hb HS; have HS := HY; clear HY) | (with_reducible refine wpList_look ?_; refine wpList_load_row rfl 37 _ rfl _ rfl 37 #[.string ch, .string sl, .string mm, .string mo, .string mg, .string mh, .string wm, .string wo, .string wg, .string wh, .string se, .string at_, .string ha, .string el, .string es, .string bl, .string ma, .string nm, .string m, .string o, .string z, .string s, .slice AR nR cR, .string u, .string h, .string P, .string Q] (0, 0) _ HS.out.set Tryz.underlying37 rfl (c27.trans rfl) ?_))
    go_ret
    exact ⟨rfl, HS.out.bel⟩
  cases b4
  · go_enter Tryz.func6, Tryz.ntmps6
    go_wp2_with (first | (go_at_call 9; (with_reducible refine (KF.out _ HS.out.r0 HS.out.bel.size).mono ?_); rintro e wn ⟨rfl, hb⟩; have HY := Lib.hid (HS.out.next hb); obtain ⟨q0, q1, v0, v1, v2⟩ := HY.out.cells; clear hb HS; have HS := HY; clear HY) | (go_at_call 10; (with_reducible refine (KL1.out _ HS.out.r1).mono ?_); rintro e wn ⟨rfl, rfl⟩) | (go_at_call 10; (with_reducible refine (KL2.out _ HS.out.r2).mono ?_); rintro e wn ⟨rfl, rfl⟩) | (go_at_call 18; (refine (KSH.out _ _ _ (SLs.newAt _ 22 [sA, sE, sV] _ rfl)).mono ?_); rintro e wn ⟨rfl, rfl⟩; have HY := Lib.hid (HS.out.alloc (.cells #[.string sA, .string sE, .string sV] 22)); obtain ⟨q0, q1, v0, v1, v2⟩ := HY.out.cells; clear HS; have HS := HY; clear HY) | (go_at_call 11; (with_reducible refine (KAW.out _ HS.out.bel).mono ?_); rintro e wn ⟨rfl, hb⟩; have HY := Lib.hid (HS.out.next hb); obtain ⟨q0, q1, v0, v1, v2⟩ := HY.out.cells; clear hb HS; have HS := HY; clear HY) | (with_reducible refine wpList_look ?_; refine wpList_load_row rfl 37 _ rfl _ rfl 37 #[.string ch, .string sl, .string mm, .string mo, .string mg, .string mh, .string wm, .string wo, .string wg, .string wh, .string se, .string at_, .string ha, .string el, .string es, .string bl, .string ma, .string nm, .string m, .string o, .string z, .string s, .slice AR nR cR, .string u, .string h, .string P, .string Q] (0, 0) _ HS.out.set Tryz.underlying37 rfl (c27.trans rfl) ?_))
    go_ret
    exact ⟨rfl, HS.out.bel⟩
  obtain ⟨⟨⟨y1, y2, y3, y4⟩, y5, y6, y7⟩, sm, snm, hR6⟩ := HFF.out rfl
  have hq1 := HLL.out.1 rfl
  have hq2 := HLL.out.2 rfl
  obtain ⟨hnR, hn1, hn2⟩ := HNN.out
  obtain ⟨PP, hPP⟩ : ∃ PP, parS ch sl mm mo mg mh wm wo wg wh se at_ ha el es bl ma = PP := ⟨_, rfl⟩
  have hpar := @par_ok ch sl mm mo mg mh wm wo wg wh se at_ ha el es bl ma
  rw [hPP] at hpar
  have KP := Lib.hid (fun wq (hb : Below w.heap.size w wq) => (show Calls Tryz.prog 41 #[.agg #[.string ch, .string sl, .string mm, .string mo, .string mg, .string mh, .string wm, .string wo, .string wg, .string wh, .string se, .string at_, .string ha, .string el, .string es, .string bl, .string ma]] wq fun e w' => e = .returned (.int .i64 PP) ∧ Below wq.heap.size wq w' by
    have := params_Check ch sl mm mo mg mh wm wo wg wh se at_ ha el es bl ma wq y1 y2 y3 y4 (HT.out.below hb)
    rw [hPP] at this
    exact this))
  have KV1 := Lib.hid (fun wq (hb : Below w.heap.size w wq) (hr : SLs wq w.heap.size AR rs) (hs : SLs wq w.heap.size A1 l1) => cl_Verify PP ch sl mm mo mg mh wm wo wg wh se at_ ha el es bl ma nm m o z s u h sA sE sV AR A1 nR n1 cR c1 rs l1 wq sm (by omega) hnR hn1 (by omega) (by omega) (hr.more hb.size) (hs.more hb.size) (HT.out.below hb) (fun h => (hpar h).1) (fun wq2 h2 => KP.out _ (hb.trans (h2.mono hb.size))))
  have KV2 := Lib.hid (fun wq (hb : Below w.heap.size w wq) (hr : SLs wq w.heap.size AR rs) (hs : SLs wq w.heap.size A2 l2) => cl_Verify PP ch sl mm mo mg mh wm wo wg wh se at_ ha el es bl ma nm m o z s u h sA sE sV AR A2 nR n2 cR c2 rs l2 wq sm (by omega) hnR hn2 (by omega) (by omega) (hr.more hb.size) (hs.more hb.size) (HT.out.below hb) (fun h => (hpar h).1) (fun wq2 h2 => KP.out _ (hb.trans (h2.mono hb.size))))
  have KM1 := Lib.hid (fun wq (hb : Below w.heap.size w wq) (hr : SLs wq w.heap.size AR rs) (hs : SLs wq w.heap.size A1 l1) => cl_Message PP ch sl mm mo mg mh wm wo wg wh se at_ ha el es bl ma nm m o z s u h AR A1 nR n1 cR c1 rs l1 wq sm (by omega) hnR hn1 (by omega) (by omega) (hr.more hb.size) (hs.more hb.size) (fun h => (hpar h).1.1) (fun wq2 h2 => KP.out _ (hb.trans (h2.mono hb.size))))
  have KM2 := Lib.hid (fun wq (hb : Below w.heap.size w wq) (hr : SLs wq w.heap.size AR rs) (hs : SLs wq w.heap.size A2 l2) => cl_Message PP ch sl mm mo mg mh wm wo wg wh se at_ ha el es bl ma nm m o z s u h AR A2 nR n2 cR c2 rs l2 wq sm (by omega) hnR hn2 (by omega) (by omega) (hr.more hb.size) (hs.more hb.size) (fun h => (hpar h).1.1) (fun wq2 h2 => KP.out _ (hb.trans (h2.mono hb.size))))
  obtain ⟨K, hK⟩ : ∃ K, K = keyE PP nm m o z s u h rs := ⟨_, rfl⟩
  have hlaw := @mean_law K nm m o z s u h se ha at_ el es bl sA sE sV PP rs l1 l2 sm hK
  rw [← hK] at KV1 KV2 KM1 KM2
  obtain ⟨X1, hX1⟩ : ∃ X1, verS K m o s z se ha at_ el es bl sA sE sV rs l1 = X1 := ⟨_, rfl⟩
  obtain ⟨X2, hX2⟩ : ∃ X2, verS K m o s z se ha at_ el es bl sA sE sV rs l2 = X2 := ⟨_, rfl⟩
  obtain ⟨Y1, hY1⟩ : ∃ Y1, msgS K m se ha at_ rs l1 = Y1 := ⟨_, rfl⟩
  obtain ⟨Y2, hY2⟩ : ∃ Y2, msgS K m se ha at_ rs l2 = Y2 := ⟨_, rfl⟩
  rw [hX1] at KV1 hlaw
  rw [hX2] at KV2 hlaw
  rw [hY1] at KM1 hlaw
  rw [hY2] at KM2 hlaw
  clear hX1 hX2 hY1 hY2 hK hpar hPP KP y1 y2 y3 y4 y5 y6 y7 sm snm hR6 hq1 hq2 hnR hn1 hn2 HFF HLL HNN
  by_cases hx : X1 = 0
  · obtain ⟨Ma, rfl, hcase⟩ := hlaw hx
    subst hx
    rcases hcase with ⟨hf, hX2⟩ | ⟨Mb, rfl, hcase2⟩
    · obtain ⟨Yb, Ye⟩ := Y2
      have hf : Ye ≠ 0 := hf
      have hX2 : X2 = Ye := hX2
      subst hX2
      have k1 : (X2 != 0) = true := by simpa using hf
      have KM1b : Hid (∀ wq, Below w.heap.size w wq → SLs wq w.heap.size AR rs → SLs wq w.heap.size A1 l1 → Calls Tryz.prog 12 #[.agg #[.string ch, .string sl, .string mm, .string mo, .string mg, .string mh, .string wm, .string wo, .string wg, .string wh, .string se, .string at_, .string ha, .string el, .string es, .string bl, .string ma], .agg #[.string nm, .string m, .string o, .string z, .string s, .slice AR nR cR, .string u, .string h], .slice A1 n1 c1] wq fun e w' => e = .returned (.tuple #[.string (B Ma), .int .i64 0]) ∧ Below wq.heap.size wq w') := Lib.hid KM1.out
      have KM2b : Hid (∀ wq, Below w.heap.size w wq → SLs wq w.heap.size AR rs → SLs wq w.heap.size A2 l2 → Calls Tryz.prog 12 #[.agg #[.string ch, .string sl, .string mm, .string mo, .string mg, .string mh, .string wm, .string wo, .string wg, .string wh, .string se, .string at_, .string ha, .string el, .string es, .string bl, .string ma], .agg #[.string nm, .string m, .string o, .string z, .string s, .slice AR nR cR, .string u, .string h], .slice A2 n2 c2] wq fun e w' => e = .returned (.tuple #[.string Yb, .int .i64 X2]) ∧ Below wq.heap.size wq w') := Lib.hid KM2.out
      clear hf hlaw KM1 KM2
      go_enter Tryz.func6, Tryz.ntmps6
      go_wp2_with (first | (go_at_call 9; (with_reducible refine (KF.out _ HS.out.r0 HS.out.bel.size).mono ?_); rintro e wn ⟨rfl, hb⟩; have HY := Lib.hid (HS.out.next hb); obtain ⟨q0, q1, v0, v1, v2⟩ := HY.out.cells; clear hb HS; have HS := HY; clear HY) | (go_at_call 10; (with_reducible refine (KL1.out _ HS.out.r1).mono ?_); rintro e wn ⟨rfl, rfl⟩) | (go_at_call 10; (with_reducible refine (KL2.out _ HS.out.r2).mono ?_); rintro e wn ⟨rfl, rfl⟩) | (go_at_call 18; (refine (KSH.out _ _ _ (SLs.newAt _ 22 [sA, sE, sV] _ rfl)).mono ?_); rintro e wn ⟨rfl, rfl⟩; have HY := Lib.hid (HS.out.alloc (.cells #[.string sA, .string sE, .string sV] 22)); obtain ⟨q0, q1, v0, v1, v2⟩ := HY.out.cells; clear HS; have HS := HY; clear HY) | (go_at_call 19; (with_reducible refine (KV1.out _ HS.out.bel HS.out.r0 HS.out.r1).mono ?_); rintro e wn ⟨rfl, hb⟩; have HY := Lib.hid (HS.out.next hb); obtain ⟨q0, q1, v0, v1, v2⟩ := HY.out.cells; clear hb HS; have HS := HY; clear HY) | (go_at_call 19; (with_reducible refine (KV2.out _ HS.out.bel HS.out.r0 HS.out.r2).mono ?_); rintro e wn ⟨rfl, hb⟩; have HY := Lib.hid (HS.out.next hb); obtain ⟨q0, q1, v0, v1, v2⟩ := HY.out.cells; clear hb HS; have HS := HY; clear HY) | (go_at_call 12; (with_reducible refine (KM1b.out _ HS.out.bel HS.out.r0 HS.out.r1).mono ?_); rintro e wn ⟨rfl, hb⟩; have HY := Lib.hid (HS.out.next hb); obtain ⟨q0, q1, v0, v1, v2⟩ := HY.out.cells; clear hb HS; have HS := HY; clear HY) | (go_at_call 12; (with_reducible refine (KM2b.out _ HS.out.bel HS.out.r0 HS.out.r2).mono ?_); rintro e wn ⟨rfl, hb⟩; have HY := Lib.hid (HS.out.next hb); obtain ⟨q0, q1, v0, v1, v2⟩ := HY.out.cells; clear hb HS; have HS := HY; clear HY) | (go_at_call 11; (with_reducible refine (KAW.out _ HS.out.bel).mono ?_); rintro e wn ⟨rfl, hb⟩; have HY := Lib.hid (HS.out.next hb); obtain ⟨q0, q1, v0, v1, v2⟩ := HY.out.cells; clear hb HS; have HS := HY; clear HY) | (with_reducible refine wpList_look ?_; refine wpList_load_row rfl 37 _ rfl _ rfl 37 #[.string ch, .string sl, .string mm, .string mo, .string mg, .string mh, .string wm, .string wo, .string wg, .string wh, .string se, .string at_, .string ha, .string el, .string es, .string bl, .string ma, .string nm, .string m, .string o, .string z, .string s, .slice AR nR cR, .string u, .string h, .string P, .string Q] (0, 0) _ HS.out.set Tryz.underlying37 rfl (c27.trans rfl) ?_) | (with_reducible refine wpList_look ?_; refine wpList_load_sub rfl 30 _ rfl _ 0 rfl 37 #[.string ch, .string sl, .string mm, .string mo, .string mg, .string mh, .string wm, .string wo, .string wg, .string wh, .string se, .string at_, .string ha, .string el, .string es, .string bl, .string ma] #[.string ch, .string sl, .string mm, .string mo, .string mg, .string mh, .string wm, .string wo, .string wg, .string wh, .string se, .string at_, .string ha, .string el, .string es, .string bl, .string ma, .string nm, .string m, .string o, .string z, .string s, .slice AR nR cR, .string u, .string h, .string P, .string Q] (0, 0) _ HS.out.set ext_par Tryz.underlying30 rfl (info17'.trans rfl) ?_) | (with_reducible refine wpList_look ?_; refine wpList_load_sub rfl 33 _ rfl _ 17 rfl 37 #[.string nm, .string m, .string o, .string z, .string s, .slice AR nR cR, .string u, .string h] #[.string ch, .string sl, .string mm, .string mo, .string mg, .string mh, .string wm, .string wo, .string wg, .string wh, .string se, .string at_, .string ha, .string el, .string es, .string bl, .string ma, .string nm, .string m, .string o, .string z, .string s, .slice AR nR cR, .string u, .string h, .string P, .string Q] (0, 0) _ HS.out.set ext_key Tryz.underlying33 rfl (info8'.trans rfl) ?_) | (with_reducible refine wpList_look ?_; refine wpList_load_row rfl 57 _ rfl _ rfl 57 #[.string sA, .string sE, .string sV] (0, 0) _ HS.out.sig Tryz.underlying57 rfl (info3s'.trans rfl) ?_))
      go_ret
      exact ⟨rfl, HS.out.bel⟩
    · have KM1b : Hid (∀ wq, Below w.heap.size w wq → SLs wq w.heap.size AR rs → SLs wq w.heap.size A1 l1 → Calls Tryz.prog 12 #[.agg #[.string ch, .string sl, .string mm, .string mo, .string mg, .string mh, .string wm, .string wo, .string wg, .string wh, .string se, .string at_, .string ha, .string el, .string es, .string bl, .string ma], .agg #[.string nm, .string m, .string o, .string z, .string s, .slice AR nR cR, .string u, .string h], .slice A1 n1 c1] wq fun e w' => e = .returned (.tuple #[.string (B Ma), .int .i64 0]) ∧ Below wq.heap.size wq w') := Lib.hid KM1.out
      have KM2b : Hid (∀ wq, Below w.heap.size w wq → SLs wq w.heap.size AR rs → SLs wq w.heap.size A2 l2 → Calls Tryz.prog 12 #[.agg #[.string ch, .string sl, .string mm, .string mo, .string mg, .string mh, .string wm, .string wo, .string wg, .string wh, .string se, .string at_, .string ha, .string el, .string es, .string bl, .string ma], .agg #[.string nm, .string m, .string o, .string z, .string s, .slice AR nR cR, .string u, .string h], .slice A2 n2 c2] wq fun e w' => e = .returned (.tuple #[.string (B Mb), .int .i64 0]) ∧ Below wq.heap.size wq w') := Lib.hid KM2.out
      clear hlaw KM1 KM2
      rcases hcase2 with ⟨rfl, rfl⟩ | ⟨hne, rfl⟩
      · have k2 : ((B Ma).toList == (B Ma).toList) = true := by simp
        go_enter Tryz.func6, Tryz.ntmps6
        go_wp2_with (first | (go_at_call 9; (with_reducible refine (KF.out _ HS.out.r0 HS.out.bel.size).mono ?_); rintro e wn ⟨rfl, hb⟩; have HY := Lib.hid (HS.out.next hb); obtain ⟨q0, q1, v0, v1, v2⟩ := HY.out.cells; clear hb HS; have HS := HY; clear HY) | (go_at_call 10; (with_reducible refine (KL1.out _ HS.out.r1).mono ?_); rintro e wn ⟨rfl, rfl⟩) | (go_at_call 10; (with_reducible refine (KL2.out _ HS.out.r2).mono ?_); rintro e wn ⟨rfl, rfl⟩) | (go_at_call 18; (refine (KSH.out _ _ _ (SLs.newAt _ 22 [sA, sE, sV] _ rfl)).mono ?_); rintro e wn ⟨rfl, rfl⟩; have HY := Lib.hid (HS.out.alloc (.cells #[.string sA, .string sE, .string sV] 22)); obtain ⟨q0, q1, v0, v1, v2⟩ := HY.out.cells; clear HS; have HS := HY; clear HY) | (go_at_call 19; (with_reducible refine (KV1.out _ HS.out.bel HS.out.r0 HS.out.r1).mono ?_); rintro e wn ⟨rfl, hb⟩; have HY := Lib.hid (HS.out.next hb); obtain ⟨q0, q1, v0, v1, v2⟩ := HY.out.cells; clear hb HS; have HS := HY; clear HY) | (go_at_call 19; (with_reducible refine (KV2.out _ HS.out.bel HS.out.r0 HS.out.r2).mono ?_); rintro e wn ⟨rfl, hb⟩; have HY := Lib.hid (HS.out.next hb); obtain ⟨q0, q1, v0, v1, v2⟩ := HY.out.cells; clear hb HS; have HS := HY; clear HY) | (go_at_call 12; (with_reducible refine (KM1b.out _ HS.out.bel HS.out.r0 HS.out.r1).mono ?_); rintro e wn ⟨rfl, hb⟩; have HY := Lib.hid (HS.out.next hb); obtain ⟨q0, q1, v0, v1, v2⟩ := HY.out.cells; clear hb HS; have HS := HY; clear HY) | (go_at_call 12; (with_reducible refine (KM2b.out _ HS.out.bel HS.out.r0 HS.out.r2).mono ?_); rintro e wn ⟨rfl, hb⟩; have HY := Lib.hid (HS.out.next hb); obtain ⟨q0, q1, v0, v1, v2⟩ := HY.out.cells; clear hb HS; have HS := HY; clear HY) | (go_at_call 11; (with_reducible refine (KAW.out _ HS.out.bel).mono ?_); rintro e wn ⟨rfl, hb⟩; have HY := Lib.hid (HS.out.next hb); obtain ⟨q0, q1, v0, v1, v2⟩ := HY.out.cells; clear hb HS; have HS := HY; clear HY) | (with_reducible refine wpList_look ?_; refine wpList_load_row rfl 37 _ rfl _ rfl 37 #[.string ch, .string sl, .string mm, .string mo, .string mg, .string mh, .string wm, .string wo, .string wg, .string wh, .string se, .string at_, .string ha, .string el, .string es, .string bl, .string ma, .string nm, .string m, .string o, .string z, .string s, .slice AR nR cR, .string u, .string h, .string P, .string Q] (0, 0) _ HS.out.set Tryz.underlying37 rfl (c27.trans rfl) ?_) | (with_reducible refine wpList_look ?_; refine wpList_load_sub rfl 30 _ rfl _ 0 rfl 37 #[.string ch, .string sl, .string mm, .string mo, .string mg, .string mh, .string wm, .string wo, .string wg, .string wh, .string se, .string at_, .string ha, .string el, .string es, .string bl, .string ma] #[.string ch, .string sl, .string mm, .string mo, .string mg, .string mh, .string wm, .string wo, .string wg, .string wh, .string se, .string at_, .string ha, .string el, .string es, .string bl, .string ma, .string nm, .string m, .string o, .string z, .string s, .slice AR nR cR, .string u, .string h, .string P, .string Q] (0, 0) _ HS.out.set ext_par Tryz.underlying30 rfl (info17'.trans rfl) ?_) | (with_reducible refine wpList_look ?_; refine wpList_load_sub rfl 33 _ rfl _ 17 rfl 37 #[.string nm, .string m, .string o, .string z, .string s, .slice AR nR cR, .string u, .string h] #[.string ch, .string sl, .string mm, .string mo, .string mg, .string mh, .string wm, .string wo, .string wg, .string wh, .string se, .string at_, .string ha, .string el, .string es, .string bl, .string ma, .string nm, .string m, .string o, .string z, .string s, .slice AR nR cR, .string u, .string h, .string P, .string Q] (0, 0) _ HS.out.set ext_key Tryz.underlying33 rfl (info8'.trans rfl) ?_) | (with_reducible refine wpList_look ?_; refine wpList_load_row rfl 57 _ rfl _ rfl 57 #[.string sA, .string sE, .string sV] (0, 0) _ HS.out.sig Tryz.underlying57 rfl (info3s'.trans rfl) ?_))
        go_ret
        exact ⟨rfl, HS.out.bel⟩
      · have k2 : ((B Ma).toList == (B Mb).toList) = false := by
          rw [beq_eq_false_iff_ne]
          intro e
          rw [ByteArray.toList_eq, ByteArray.toList_eq] at e
          exact hne (B_inj (ByteArray.ext (Array.toList_inj.1 e)))
        clear hne
        go_enter Tryz.func6, Tryz.ntmps6
        go_wp2_with (first | (go_at_call 9; (with_reducible refine (KF.out _ HS.out.r0 HS.out.bel.size).mono ?_); rintro e wn ⟨rfl, hb⟩; have HY := Lib.hid (HS.out.next hb); obtain ⟨q0, q1, v0, v1, v2⟩ := HY.out.cells; clear hb HS; have HS := HY; clear HY) | (go_at_call 10; (with_reducible refine (KL1.out _ HS.out.r1).mono ?_); rintro e wn ⟨rfl, rfl⟩) | (go_at_call 10; (with_reducible refine (KL2.out _ HS.out.r2).mono ?_); rintro e wn ⟨rfl, rfl⟩) | (go_at_call 18; (refine (KSH.out _ _ _ (SLs.newAt _ 22 [sA, sE, sV] _ rfl)).mono ?_); rintro e wn ⟨rfl, rfl⟩; have HY := Lib.hid (HS.out.alloc (.cells #[.string sA, .string sE, .string sV] 22)); obtain ⟨q0, q1, v0, v1, v2⟩ := HY.out.cells; clear HS; have HS := HY; clear HY) | (go_at_call 19; (with_reducible refine (KV1.out _ HS.out.bel HS.out.r0 HS.out.r1).mono ?_); rintro e wn ⟨rfl, hb⟩; have HY := Lib.hid (HS.out.next hb); obtain ⟨q0, q1, v0, v1, v2⟩ := HY.out.cells; clear hb HS; have HS := HY; clear HY) | (go_at_call 19; (with_reducible refine (KV2.out _ HS.out.bel HS.out.r0 HS.out.r2).mono ?_); rintro e wn ⟨rfl, hb⟩; have HY := Lib.hid (HS.out.next hb); obtain ⟨q0, q1, v0, v1, v2⟩ := HY.out.cells; clear hb HS; have HS := HY; clear HY) | (go_at_call 12; (with_reducible refine (KM1b.out _ HS.out.bel HS.out.r0 HS.out.r1).mono ?_); rintro e wn ⟨rfl, hb⟩; have HY := Lib.hid (HS.out.next hb); obtain ⟨q0, q1, v0, v1, v2⟩ := HY.out.cells; clear hb HS; have HS := HY; clear HY) | (go_at_call 12; (with_reducible refine (KM2b.out _ HS.out.bel HS.out.r0 HS.out.r2).mono ?_); rintro e wn ⟨rfl, hb⟩; have HY := Lib.hid (HS.out.next hb); obtain ⟨q0, q1, v0, v1, v2⟩ := HY.out.cells; clear hb HS; have HS := HY; clear HY) | (go_at_call 11; (with_reducible refine (KAW.out _ HS.out.bel).mono ?_); rintro e wn ⟨rfl, hb⟩; have HY := Lib.hid (HS.out.next hb); obtain ⟨q0, q1, v0, v1, v2⟩ := HY.out.cells; clear hb HS; have HS := HY; clear HY) | (with_reducible refine wpList_look ?_; refine wpList_load_row rfl 37 _ rfl _ rfl 37 #[.string ch, .string sl, .string mm, .string mo, .string mg, .string mh, .string wm, .string wo, .string wg, .string wh, .string se, .string at_, .string ha, .string el, .string es, .string bl, .string ma, .string nm, .string m, .string o, .string z, .string s, .slice AR nR cR, .string u, .string h, .string P, .string Q] (0, 0) _ HS.out.set Tryz.underlying37 rfl (c27.trans rfl) ?_) | (with_reducible refine wpList_look ?_; refine wpList_load_sub rfl 30 _ rfl _ 0 rfl 37 #[.string ch, .string sl, .string mm, .string mo, .string mg, .string mh, .string wm, .string wo, .string wg, .string wh, .string se, .string at_, .string ha, .string el, .string es, .string bl, .string ma] #[.string ch, .string sl, .string mm, .string mo, .string mg, .string mh, .string wm, .string wo, .string wg, .string wh, .string se, .string at_, .string ha, .string el, .string es, .string bl, .string ma, .string nm, .string m, .string o, .string z, .string s, .slice AR nR cR, .string u, .string h, .string P, .string Q] (0, 0) _ HS.out.set ext_par Tryz.underlying30 rfl (info17'.trans rfl) ?_) | (with_reducible refine wpList_look ?_; refine wpList_load_sub rfl 33 _ rfl _ 17 rfl 37 #[.string nm, .string m, .string o, .string z, .string s, .slice AR nR cR, .string u, .string h] #[.string ch, .string sl, .string mm, .string mo, .string mg, .string mh, .string wm, .string wo, .string wg, .string wh, .string se, .string at_, .string ha, .string el, .string es, .string bl, .string ma, .string nm, .string m, .string o, .string z, .string s, .slice AR nR cR, .string u, .string h, .string P, .string Q] (0, 0) _ HS.out.set ext_key Tryz.underlying33 rfl (info8'.trans rfl) ?_) | (with_reducible refine wpList_look ?_; refine wpList_load_row rfl 57 _ rfl _ rfl 57 #[.string sA, .string sE, .string sV] (0, 0) _ HS.out.sig Tryz.underlying57 rfl (info3s'.trans rfl) ?_))
        go_ret
        exact ⟨rfl, HS.out.bel⟩
  · have k1 : (X1 != 0) = true := by simpa using hx
    clear hlaw hx
    go_enter Tryz.func6, Tryz.ntmps6
    go_wp2_with (first | (go_at_call 9; (with_reducible refine (KF.out _ HS.out.r0 HS.out.bel.size).mono ?_); rintro e wn ⟨rfl, hb⟩; have HY := Lib.hid (HS.out.next hb); obtain ⟨q0, q1, v0, v1, v2⟩ := HY.out.cells; clear hb HS; have HS := HY; clear HY) | (go_at_call 10; (with_reducible refine (KL1.out _ HS.out.r1).mono ?_); rintro e wn ⟨rfl, rfl⟩) | (go_at_call 10; (with_reducible refine (KL2.out _ HS.out.r2).mono ?_); rintro e wn ⟨rfl, rfl⟩) | (go_at_call 18; (refine (KSH.out _ _ _ (SLs.newAt _ 22 [sA, sE, sV] _ rfl)).mono ?_); rintro e wn ⟨rfl, rfl⟩; have HY := Lib.hid (HS.out.alloc (.cells #[.string sA, .string sE, .string sV] 22)); obtain ⟨q0, q1, v0, v1, v2⟩ := HY.out.cells; clear HS; have HS := HY; clear HY) | (go_at_call 19; (with_reducible refine (KV1.out _ HS.out.bel HS.out.r0 HS.out.r1).mono ?_); rintro e wn ⟨rfl, hb⟩; have HY := Lib.hid (HS.out.next hb); obtain ⟨q0, q1, v0, v1, v2⟩ := HY.out.cells; clear hb HS; have HS := HY; clear HY) | (go_at_call 11; (with_reducible refine (KAW.out _ HS.out.bel).mono ?_); rintro e wn ⟨rfl, hb⟩; have HY := Lib.hid (HS.out.next hb); obtain ⟨q0, q1, v0, v1, v2⟩ := HY.out.cells; clear hb HS; have HS := HY; clear HY) | (with_reducible refine wpList_look ?_; refine wpList_load_row rfl 37 _ rfl _ rfl 37 #[.string ch, .string sl, .string mm, .string mo, .string mg, .string mh, .string wm, .string wo, .string wg, .string wh, .string se, .string at_, .string ha, .string el, .string es, .string bl, .string ma, .string nm, .string m, .string o, .string z, .string s, .slice AR nR cR, .string u, .string h, .string P, .string Q] (0, 0) _ HS.out.set Tryz.underlying37 rfl (c27.trans rfl) ?_) | (with_reducible refine wpList_look ?_; refine wpList_load_sub rfl 30 _ rfl _ 0 rfl 37 #[.string ch, .string sl, .string mm, .string mo, .string mg, .string mh, .string wm, .string wo, .string wg, .string wh, .string se, .string at_, .string ha, .string el, .string es, .string bl, .string ma] #[.string ch, .string sl, .string mm, .string mo, .string mg, .string mh, .string wm, .string wo, .string wg, .string wh, .string se, .string at_, .string ha, .string el, .string es, .string bl, .string ma, .string nm, .string m, .string o, .string z, .string s, .slice AR nR cR, .string u, .string h, .string P, .string Q] (0, 0) _ HS.out.set ext_par Tryz.underlying30 rfl (info17'.trans rfl) ?_) | (with_reducible refine wpList_look ?_; refine wpList_load_sub rfl 33 _ rfl _ 17 rfl 37 #[.string nm, .string m, .string o, .string z, .string s, .slice AR nR cR, .string u, .string h] #[.string ch, .string sl, .string mm, .string mo, .string mg, .string mh, .string wm, .string wo, .string wg, .string wh, .string se, .string at_, .string ha, .string el, .string es, .string bl, .string ma, .string nm, .string m, .string o, .string z, .string s, .slice AR nR cR, .string u, .string h, .string P, .string Q] (0, 0) _ HS.out.set ext_key Tryz.underlying33 rfl (info8'.trans rfl) ?_) | (with_reducible refine wpList_look ?_; refine wpList_load_row rfl 57 _ rfl _ rfl 57 #[.string sA, .string sE, .string sV] (0, 0) _ HS.out.sig Tryz.underlying57 rfl (info3s'.trans rfl) ?_))
    go_ret
    exact ⟨rfl, HS.out.bel⟩
end Go.Proofs.YtkdbemdobfddoaaGreatDoor
