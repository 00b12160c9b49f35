/- The walk of clsign.Message, over a contract of params.Check given as a hypothesis. -/
import Derived.Test.YtkdbemdobfddoaaGreatDoorKh
namespace Go.Proofs.YtkdbemdobfddoaaGreatDoor
open Go.RowKit
set_option maxRecDepth 100000
set_option linter.unusedVariables false
set_option maxHeartbeats 4000000

/-- A key without error. -/
structure KeyOk (P : Int) (nm m o z s u h : ByteArray) (rs : List ByteArray) : Prop where
  p0 : P = 0
  hg : groupE m o = 0
  ho : o.toList.isEmpty = true
  hs : hasG m o s = true
  hz : hasG m o z = true
  hu : hasG m o u = true
  hh : hasG m o h = true
  hrs : rs.all (hasG m o) = true
  len : 2 ≤ rs.length ∧ rs.length ≤ 18
  two : 2 ≤ num m
theorem keyE_zero {P : Int} {nm m o z s u h : ByteArray} {rs : List ByteArray} (h0 : keyE P nm m o z s u h rs = 0) : KeyOk P nm m o z s u h rs := by
  by_cases hP : P = 0
  · subst hP
    unfold keyE at h0
    rw [if_pos rfl] at h0
    split at h0
    · split at h0
      · split at h0
        · rename_i hgo
          split at h0
          · rename_i hlen
            split at h0
            · rename_i hall
              rw [Bool.and_eq_true] at hall
              have h2 := hall.2
              simp only [List.all_cons, Bool.and_eq_true] at h2
              exact ⟨rfl, hgo.2, hgo.1, h2.1, h2.2.1, h2.2.2.1, h2.2.2.2.1, h2.2.2.2.2, hlen, hasG_two hgo.2 h2.1⟩
            · exact absurd h0 (by decide)
          · exact absurd h0 (by decide)
        · exact absurd h0 (by decide)
      · exact absurd h0 (by decide)
    · exact absurd h0 (by decide)
  · rw [keyE_par hP] at h0
    exact absurd h0 hP
/-- The boxes of parameters and key, and the rows. -/
structure PkAt (w : World) (cs ks : Array Value) (A A2 : Option Addr) (rs ats : List ByteArray) (W : World) : Prop where
  par : W.heap[w.heap.size]? = some (.cells cs 30 (0, 0))
  key : W.heap[w.heap.size + 1]? = some (.cells ks 33 (0, 0))
  row : SLs W w.heap.size A rs
  att : SLs W w.heap.size A2 ats
  bel : Below w.heap.size w W
theorem PkAt.lt {w : World} {cs ks : Array Value} {A A2 : Option Addr} {rs ats : List ByteArray} {W : World} (k : PkAt w cs ks A A2 rs ats W) : w.heap.size + 1 < W.heap.size := (Array.getElem?_eq_some_iff.1 k.key).1
theorem PkAt.next {w : World} {cs ks : Array Value} {A A2 : Option Addr} {rs ats : List ByteArray} {W W' : World} (k : PkAt w cs ks A A2 rs ats W) (hb : Below W.heap.size W W') : PkAt w cs ks A A2 rs ats W' := by
  have l2 := k.lt
  exact ⟨(hb.block _ (by omega)).trans k.par, (hb.block _ l2).trans k.key, k.row.below (hb.mono k.bel.size), k.att.below (hb.mono k.bel.size), k.bel.trans (hb.mono k.bel.size)⟩
theorem PkAt.start (w : World) (cs ks : Array Value) (A A2 : Option Addr) (rs ats : List ByteArray) (h1 : SLs w w.heap.size A rs) (h2 : SLs w w.heap.size A2 ats) :
    PkAt w cs ks A A2 rs ats ((w.alloc (.cells cs 30)).alloc (.cells ks 33)) := by
  have hb : Below w.heap.size w ((w.alloc (.cells cs 30)).alloc (.cells ks 33)) := ((Below.refl _ _).alloc (Nat.le_refl _) _).alloc (by simp) _
  have h0 := heap_alloc_new w (.cells cs 30)
  have h1' := heap_alloc_new (w.alloc (.cells cs 30)) (.cells ks 33)
  rw [World.size_alloc] at h1'
  exact ⟨(heap_alloc_old _ _ (by simp)).trans h0, h1', h1.below hb, h2.below hb, hb⟩
theorem msgS_key {K : Int} {m se ha at_ : ByteArray} {rs ats : List ByteArray} (h : K ≠ 0) : msgS K m se ha at_ rs ats = (⟨#[]⟩, K) := by unfold msgS; rw [if_neg h]
theorem msgS_form {m se ha at_ : ByteArray} {rs ats : List ByteArray} (h : ats.all valid = false) : msgS 0 m se ha at_ rs ats = (⟨#[]⟩, 3) := by unfold msgS; rw [if_pos rfl, h, if_neg (by decide)]
theorem msgS_ok {m se ha at_ : ByteArray} {rs ats : List ByteArray} (h : ats.all valid = true) : msgS 0 m se ha at_ rs ats = msgA m se ha at_ rs ats := by unfold msgS; rw [if_pos rfl, if_pos h]; rfl
theorem cl_Message (P : Int) (ch sl mm mo mg mh wm wo wg wh se at_ ha el es bl ma nm m o z s u h : ByteArray) (A A2 : Option Addr) (n n2 c c2 : Nat) (rs ats : List ByteArray) (w : World) (sm : m.size ≤ 8) (snm : nm.size ≤ 100000)
    (hn : rs.length = n) (hn2 : ats.length = n2) (hm : n ≤ 1000) (hm2 : n2 ≤ 1000) (hs : SLs w w.heap.size A rs) (hs2 : SLs w w.heap.size A2 ats) (hPv : P = 0 → valid se = true ∧ valid ha = true ∧ valid at_ = true)
    (hP : ∀ wq, Below w.heap.size w wq → Calls Tryz.prog 41 #[.agg #[.string ch, .string sl, .string mm, .string mo, .string mg, .string mh, .string wm, .string wo, .string wg, .string wh, .string se, .string at_, .string ha, .string el, .string es, .string bl, .string ma]] wq fun e w' => e = .returned (.int .i64 P) ∧ Below wq.heap.size wq w') :
    Calls Tryz.prog 12 #[.agg #[.string ch, .string sl, .string mm, .string mo, .string mg, .string mh, .string wm, .string wo, .string wg, .string wh, .string se, .string at_, .string ha, .string el, .string es, .string bl, .string ma],
      .agg #[.string nm, .string m, .string o, .string z, .string s, .slice A n c, .string u, .string h], .slice A2 n2 c2] w fun e w' => e = .returned (.tuple #[.string (msgS (keyE P nm m o z s u h rs) m se ha at_ rs ats).1, .int .i64 (msgS (keyE P nm m o z s u h rs) m se ha at_ rs ats).2]) ∧ Below w.heap.size w w' := by
  have HS0 := PkAt.start w #[.string ch, .string sl, .string mm, .string mo, .string mg, .string mh, .string wm, .string wo, .string wg, .string wh, .string se, .string at_, .string ha, .string el, .string es, .string bl, .string ma] #[.string nm, .string m, .string o, .string z, .string s, .slice A n c, .string u, .string h] A A2 rs ats hs hs2
  have KK := Lib.hid (fun (wq : World) (h1 : Below w.heap.size w wq) => iss_Check P ch sl mm mo mg mh wm wo wg wh se at_ ha el es bl ma nm m o z s u h A n c rs wq sm snm hn hm (hs.below h1 |>.more h1.size) (fun wq2 h2 => hP wq2 (h1.trans (h2.mono h1.size))))
  have KF := Lib.hid (fun (wq : World) (h1 : SLs wq w.heap.size A2 ats) => cl_formed ats A2 n2 c2 w.heap.size wq hn2 (by omega) h1)
  have HZ := Lib.hid (@keyE_zero P nm m o z s u h rs)
  obtain ⟨K, hK⟩ : ∃ K, keyE P nm m o z s u h rs = K := ⟨_, rfl⟩
  rw [hK] at KK HZ ⊢
  obtain ⟨W0, hW0⟩ : ∃ W0, (w.alloc (.cells #[.string ch, .string sl, .string mm, .string mo, .string mg, .string mh, .string wm, .string wo, .string wg, .string wh, .string se, .string at_, .string ha, .string el, .string es, .string bl, .string ma] 30)).alloc (.cells #[.string nm, .string m, .string o, .string z, .string s, .slice A n c, .string u, .string h] 33) = W0 := ⟨_, rfl⟩
  rw [hW0] at HS0
  have HS := Lib.hid HS0
  clear HS0 hK
  by_cases h0 : K = 0
  · subst h0
    have hkey := HZ.out rfl
    cases hv : ats.all valid
    · have HE : Hid (msgS 0 m se ha at_ rs ats = (⟨#[]⟩, 3)) := Lib.hid (msgS_form hv)
      rw [hv] at KF
      clear hv hkey hs hs2 hPv hP sm snm hn hn2
      go_enter Tryz.func12, Tryz.ntmps12
      go_wp2_with (first
        | (refine wpList_load_row rfl 30 _ rfl _ rfl 30 _ (0, 0) _ HS.out.par Tryz.underlying30 rfl (info17'.trans rfl) ?_)
        | (refine wpList_load_row rfl 33 _ rfl _ rfl 33 _ (0, 0) _ HS.out.key Tryz.underlying33 rfl (info8'.trans rfl) ?_)
        | (go_at_call 34; (with_reducible refine (KK.out _ HS.out.bel).mono ?_); rintro e w1 ⟨rfl, hb1⟩; have HS1 := Lib.hid (HS.out.next hb1); clear hb1)
        | (go_at_call 35; (with_reducible refine (KF.out _ HS1.out.att).mono ?_); rintro e w2 ⟨rfl, rfl⟩))
      go_ret2
      exact ⟨by rw [HE.out]; rfl, HS1.out.bel⟩
    · have HE := Lib.hid (msgS_ok (m := m) (se := se) (ha := ha) (at_ := at_) (rs := rs) hv)
      rw [hv] at KF
      obtain ⟨v1, v2, v3⟩ := hPv hkey.p0
      have KM := Lib.hid (fun (wq : World) (h1 : Below w.heap.size w wq) => cl_message ch sl mm mo mg mh wm wo wg wh se at_ ha el es bl ma nm m o z s u h A A2 n n2 c c2 rs ats wq sm hkey.hg hkey.ho hkey.two hkey.hrs hn hn2 hm hm2 (hs.below h1 |>.more h1.size) (hs2.below h1 |>.more h1.size) hv v1 v2 v3)
      clear hv hkey hs hs2 hPv hP sm snm hn hn2 v1 v2 v3
      go_enter Tryz.func12, Tryz.ntmps12
      go_wp2_with (first
        | (refine wpList_load_row rfl 30 _ rfl _ rfl 30 _ (0, 0) _ HS.out.par Tryz.underlying30 rfl (info17'.trans rfl) ?_)
        | (refine wpList_load_row rfl 33 _ rfl _ rfl 33 _ (0, 0) _ HS.out.key Tryz.underlying33 rfl (info8'.trans rfl) ?_)
        | (go_at_call 34; (with_reducible refine (KK.out _ HS.out.bel).mono ?_); rintro e w1 ⟨rfl, hb1⟩; have HS1 := Lib.hid (HS.out.next hb1); clear hb1)
        | (go_at_call 35; (with_reducible refine (KF.out _ HS1.out.att).mono ?_); rintro e w2 ⟨rfl, rfl⟩)
        | (refine wpList_load_row rfl 30 _ rfl _ rfl 30 _ (0, 0) _ HS1.out.par Tryz.underlying30 rfl (info17'.trans rfl) ?_)
        | (refine wpList_load_row rfl 33 _ rfl _ rfl 33 _ (0, 0) _ HS1.out.key Tryz.underlying33 rfl (info8'.trans rfl) ?_)
        | (go_at_call 36; (with_reducible refine (KM.out _ HS1.out.bel).mono ?_); rintro e w3 ⟨rfl, hb3⟩; have HB3 := Lib.hid (HS1.out.bel.trans (hb3.mono HS1.out.bel.size)); clear hb3))
      go_ret2
      exact ⟨by rw [HE.out]; rfl, HB3.out⟩
  · have HE : Hid (msgS K m se ha at_ rs ats = (⟨#[]⟩, K)) := Lib.hid (msgS_key h0)
    have p0 : (K != 0) = true := by simpa using h0
    clear h0 HZ hs hs2 hPv hP sm snm hn hn2
    go_enter Tryz.func12, Tryz.ntmps12
    go_wp2_with (first
      | (refine wpList_load_row rfl 30 _ rfl _ rfl 30 _ (0, 0) _ HS.out.par Tryz.underlying30 rfl (info17'.trans rfl) ?_)
      | (refine wpList_load_row rfl 33 _ rfl _ rfl 33 _ (0, 0) _ HS.out.key Tryz.underlying33 rfl (info8'.trans rfl) ?_)
      | (go_at_call 34; (with_reducible refine (KK.out _ HS.out.bel).mono ?_); rintro e w1 ⟨rfl, hb1⟩; have HS1 := Lib.hid (HS.out.next hb1); clear hb1))
    go_ret2
    exact ⟨by rw [HE.out]; rfl, HS1.out.bel⟩

end Go.Proofs.YtkdbemdobfddoaaGreatDoor
