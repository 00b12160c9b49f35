/- The walk of the reference's Split of package 19. -/
import Derived.Test.YtlcmlbdgibjmlaaGreatDoorSX
import Derived.Test.YtlcmlbdgibjmlaaGreatDoorRC
namespace Go.Proofs.YtlcmlbdgibjmlaaGreatDoor
open Go.RowKit
set_option maxRecDepth 100000
set_option linter.unusedVariables false
set_option linter.unusedSimpArgs false
set_option maxHeartbeats 4000000

theorem isE_bad {q : ByteArray} (h : valid q = false) : isE q = 3 := by
  have h1 := shE_nil (q := q) (x := B 1) (vals := []) (.inl (by rw [h]; rfl))
  rw [shE_all (by rfl) (valid_B (by decide))] at h1
  exact h1
theorem splE_bad {q s : ByteArray} {need count : Int} {vals : List ByteArray} {z : Int} (h : (valid q && (valid s && true)) = false ∨ goodT vals z = false) : splE q s need count vals z = 3 := by
  unfold splE
  cases hg : goodT vals z
  · rw [if_neg (by decide)]
  · rw [if_pos rfl]
    have hp : (valid q && (valid s && true)) = false := by rcases h with h | h; · exact h
                                                           · rw [hg] at h; cases h
    have h3 : shE q [[s]] = 3 := by
      unfold shE
      cases hs : valid s
      · rw [if_neg (by simp [hs])]
      · rw [hs] at hp
        rw [if_pos (by simp [hs]), isE_bad (by simpa using hp)]
    rw [h3, if_neg (by decide)]
theorem splE_ok {q s : ByteArray} {need count : Int} {vals : List ByteArray} {z : Int} (h : (valid q && (valid s && true)) = true) (hg : goodT vals z = true) :
    splE q s need count vals z = if isE q = 0 then (if blwS q [s] = true then (if need < 1 ∨ count < need ∨ 255 < count ∨ ¬ natCmp (B count.toNat) q < 0 then 6 else 0) else 2) else isE q := by
  have hs : valid s = true := by simp only [Bool.and_eq_true] at h; exact h.2.1
  unfold splE
  rw [if_pos hg]
  have e : shE q [[s]] = isE q := by unfold shE; rw [if_pos (by simp [hs])]
  rw [e]
theorem r19_Split_err (q s : ByteArray) (need count : Int) (vals : List ByteArray) (A : Option Addr) (n c : Nat) (seed : ByteArray) (z : Int) (w : World)
    (hn : vals.length = n) (hm : n ≤ 1000) (h : SLs w w.heap.size A vals) (he : splE q s need count vals z ≠ 0) :
    Calls Tryz.prog 14 #[.string q, .string s, .int .i64 need, .int .i64 count, .agg #[.slice A n c, .string seed, .int .i64 z]] w fun e w' => e = splNil (splE q s need count vals z) ∧ Below w.heap.size w w' := by
  have KV1 := fun (W : World) T => r19_valid [q, s] (some ⟨W.heap.size, 0, none⟩) 2 2 (W.alloc (.cells #[.string q, .string s] T)) rfl (by decide) (sls_two W T q s)
  have e2 : [q, s].all valid = (valid q && (valid s && true)) := rfl
  rw [e2] at KV1
  have KG := fun wq (h1 : Below w.heap.size w wq) => r06_Good vals A n c seed z wq hn (Nat.le_trans hm (by decide)) ((h.below h1).more h1.size)
  have KF := fun w => r19_field q w
  have KB2 := fun (W : World) T => r19_below q [s] (some ⟨W.heap.size, 0, none⟩) 1 1 (W.alloc (.cells #[.string s] T)) rfl (by decide) (sls_one W T s)
  obtain ⟨v1, hv1⟩ : ∃ v1, v1 = (valid q && (valid s && true)) := ⟨_, rfl⟩
  obtain ⟨g, hg⟩ : ∃ g, g = goodT vals z := ⟨_, rfl⟩
  rw [← hv1] at KV1
  rw [← hg] at KG
  have KV1 := Lib.hid (fun T => by
    have := KV1 ((w.alloc (.cells #[.slice A n c, .string seed, .int .i64 z] 36)).alloc (.cells #[.slice none 0 0, .string ⟨#[]⟩, .int .i64 0] 36)) T
    rw [World.size_alloc, World.size_alloc] at this
    exact this)
  have KG := Lib.hid KG
  have HA0 := Lib.hid (AtS.start w A n c seed z)
  have HE := Lib.hid he
  clear hn hm h he e2
  cases v1
  · have HV := Lib.hid (splE_bad (q := q) (s := s) (need := need) (count := count) (vals := vals) (z := z) (.inl hv1.symm))
    clear hv1 hg KF KB2
    go_enter Tryz.func14, Tryz.ntmps14
    go_wp2_with (first
      | (go_at_call 33; (with_reducible refine (KV1.out _).mono ?_); rintro e w1 ⟨rfl, rfl⟩; have HX := Lib.hid (HA0.out.alloc (.cells #[.string q, .string s] 22)); obtain ⟨r0, r1, r2, g0, g1, g2⟩ := HX.out.a.r0))
    exact bodyPost_ret (v := .tuple #[.slice none 0 0, .agg #[.slice none 0 0, .string ⟨#[]⟩, .int .i64 0], .int .i64 3]) (by simp [results, Tryz.results14, go_sem, r0, r1, r2]) rfl ⟨by unfold splNil; rw [HV.out], by first | exact HX.out.a.bel3 | exact HX.out.a.bel⟩
  · cases g
    · have HV := Lib.hid (splE_bad (q := q) (s := s) (need := need) (count := count) (vals := vals) (z := z) (.inr hg.symm))
      clear hv1 hg KF KB2
      go_enter Tryz.func14, Tryz.ntmps14
      go_wp2_with (first
        | (go_at_call 33; (with_reducible refine (KV1.out _).mono ?_); rintro e w1 ⟨rfl, rfl⟩; have HA1 := Lib.hid (HA0.out.alloc (.cells #[.string q, .string s] 22)); obtain ⟨⟨t0, t1, t2, _, _⟩, _, _, _⟩ := HA1.out)
        | (go_at_call 40; (with_reducible refine (KG.out _ HA1.out.a.bel).mono ?_); rintro e w2 ⟨rfl, hb2⟩; have HX := Lib.hid (HA1.out.next hb2); obtain ⟨r0, r1, r2, g0, g1, g2⟩ := HX.out.a.r0; clear hb2))
      exact bodyPost_ret (v := .tuple #[.slice none 0 0, .agg #[.slice none 0 0, .string ⟨#[]⟩, .int .i64 0], .int .i64 3]) (by simp [results, Tryz.results14, go_sem, r0, r1, r2]) rfl ⟨by unfold splNil; rw [HV.out], HX.out.a.bel3⟩
    · have hv0 := splE_ok (need := need) (count := count) hv1.symm hg.symm
      obtain ⟨e0, he0⟩ : ∃ e0, e0 = isE q := ⟨_, rfl⟩
      rw [← he0] at hv0
      simp only [← he0] at KF
      have KF := Lib.hid KF
      by_cases h0 : e0 = 0
      · subst h0
        rw [if_pos rfl] at hv0
        obtain ⟨b, hb⟩ : ∃ b, b = blwS q [s] := ⟨_, rfl⟩
        rw [← hb] at KB2 hv0
        have KB2 := Lib.hid KB2
        cases b
        · have HV := Lib.hid (show splE q s need count vals z = 2 by rw [hv0]; rfl)
          clear hv1 hg hv0 he0 hb
          go_enter Tryz.func14, Tryz.ntmps14
          go_wp2_with (first
            | (go_at_call 33; (with_reducible refine (KV1.out _).mono ?_); rintro e w1 ⟨rfl, rfl⟩; have HA1 := Lib.hid (HA0.out.alloc (.cells #[.string q, .string s] 22)); obtain ⟨⟨t0, t1, t2, _, _⟩, _, _, _⟩ := HA1.out)
            | (go_at_call 40; (with_reducible refine (KG.out _ HA1.out.a.bel).mono ?_); rintro e w2 ⟨rfl, hb2⟩; have HA2 := Lib.hid (HA1.out.next hb2); clear hb2)
            | (go_at_call 34; (with_reducible refine (KF.out _).mono ?_); rintro e w3 ⟨rfl, hb3⟩; have HA3 := Lib.hid (HA2.out.next hb3); clear hb3)
            | (go_at_call 35; (with_reducible refine (KB2.out _ _).mono ?_); rintro e w4 ⟨rfl, hb4⟩; have HX := Lib.hid ((HA3.out.alloc (.cells #[.string s] 22)).next hb4); obtain ⟨r0, r1, r2, g0, g1, g2⟩ := HX.out.a.r0; clear hb4))
          exact bodyPost_ret (v := .tuple #[.slice none 0 0, .agg #[.slice none 0 0, .string ⟨#[]⟩, .int .i64 0], .int .i64 2]) (by simp [results, Tryz.results14, go_sem, r0, r1, r2]) rfl ⟨by unfold splNil; rw [HV.out], HX.out.a.bel3⟩
        · rw [if_pos rfl] at hv0
          by_cases hc : need < 1 ∨ count < need ∨ 255 < count ∨ ¬ natCmp (B count.toNat) q < 0
          · rw [if_pos hc] at hv0
            have HV := Lib.hid hv0
            clear hv1 hg hv0 he0 hb
            by_cases c1 : need < 1
            · have d1 : decide (need < 1) = true := decide_eq_true c1
              clear hc c1
              go_enter Tryz.func14, Tryz.ntmps14
              go_wp2_with (first
                | (go_at_call 33; (with_reducible refine (KV1.out _).mono ?_); rintro e w1 ⟨rfl, rfl⟩; have HA1 := Lib.hid (HA0.out.alloc (.cells #[.string q, .string s] 22)); obtain ⟨⟨t0, t1, t2, _, _⟩, _, _, _⟩ := HA1.out)
                | (go_at_call 40; (with_reducible refine (KG.out _ HA1.out.a.bel).mono ?_); rintro e w2 ⟨rfl, hb2⟩; have HA2 := Lib.hid (HA1.out.next hb2); clear hb2)
                | (go_at_call 34; (with_reducible refine (KF.out _).mono ?_); rintro e w3 ⟨rfl, hb3⟩; have HA3 := Lib.hid (HA2.out.next hb3); clear hb3)
                | (go_at_call 35; (with_reducible refine (KB2.out _ _).mono ?_); rintro e w4 ⟨rfl, hb4⟩; have HX := Lib.hid ((HA3.out.alloc (.cells #[.string s] 22)).next hb4); obtain ⟨r0, r1, r2, g0, g1, g2⟩ := HX.out.a.r0; clear hb4))
              exact bodyPost_ret (v := .tuple #[.slice none 0 0, .agg #[.slice none 0 0, .string ⟨#[]⟩, .int .i64 0], .int .i64 6]) (by simp [results, Tryz.results14, go_sem, r0, r1, r2]) rfl ⟨by unfold splNil; rw [HV.out], HX.out.a.bel3⟩
            · have d1 : decide (need < 1) = false := decide_eq_false c1
              by_cases c2 : count < need
              · have d2 : decide (count < need) = true := decide_eq_true c2
                clear hc c1 c2
                go_enter Tryz.func14, Tryz.ntmps14
                go_wp2_with (first
                  | (go_at_call 33; (with_reducible refine (KV1.out _).mono ?_); rintro e w1 ⟨rfl, rfl⟩; have HA1 := Lib.hid (HA0.out.alloc (.cells #[.string q, .string s] 22)); obtain ⟨⟨t0, t1, t2, _, _⟩, _, _, _⟩ := HA1.out)
                  | (go_at_call 40; (with_reducible refine (KG.out _ HA1.out.a.bel).mono ?_); rintro e w2 ⟨rfl, hb2⟩; have HA2 := Lib.hid (HA1.out.next hb2); clear hb2)
                  | (go_at_call 34; (with_reducible refine (KF.out _).mono ?_); rintro e w3 ⟨rfl, hb3⟩; have HA3 := Lib.hid (HA2.out.next hb3); clear hb3)
                  | (go_at_call 35; (with_reducible refine (KB2.out _ _).mono ?_); rintro e w4 ⟨rfl, hb4⟩; have HX := Lib.hid ((HA3.out.alloc (.cells #[.string s] 22)).next hb4); obtain ⟨r0, r1, r2, g0, g1, g2⟩ := HX.out.a.r0; clear hb4))
                exact bodyPost_ret (v := .tuple #[.slice none 0 0, .agg #[.slice none 0 0, .string ⟨#[]⟩, .int .i64 0], .int .i64 6]) (by simp [results, Tryz.results14, go_sem, r0, r1, r2]) rfl ⟨by unfold splNil; rw [HV.out], HX.out.a.bel3⟩
              · have d2 : decide (count < need) = false := decide_eq_false c2
                by_cases c3 : 255 < count
                · have d3 : decide (255 < count) = true := decide_eq_true c3
                  clear hc c1 c2 c3
                  go_enter Tryz.func14, Tryz.ntmps14
                  go_wp2_with (first
                    | (go_at_call 33; (with_reducible refine (KV1.out _).mono ?_); rintro e w1 ⟨rfl, rfl⟩; have HA1 := Lib.hid (HA0.out.alloc (.cells #[.string q, .string s] 22)); obtain ⟨⟨t0, t1, t2, _, _⟩, _, _, _⟩ := HA1.out)
                    | (go_at_call 40; (with_reducible refine (KG.out _ HA1.out.a.bel).mono ?_); rintro e w2 ⟨rfl, hb2⟩; have HA2 := Lib.hid (HA1.out.next hb2); clear hb2)
                    | (go_at_call 34; (with_reducible refine (KF.out _).mono ?_); rintro e w3 ⟨rfl, hb3⟩; have HA3 := Lib.hid (HA2.out.next hb3); clear hb3)
                    | (go_at_call 35; (with_reducible refine (KB2.out _ _).mono ?_); rintro e w4 ⟨rfl, hb4⟩; have HX := Lib.hid ((HA3.out.alloc (.cells #[.string s] 22)).next hb4); obtain ⟨r0, r1, r2, g0, g1, g2⟩ := HX.out.a.r0; clear hb4))
                  exact bodyPost_ret (v := .tuple #[.slice none 0 0, .agg #[.slice none 0 0, .string ⟨#[]⟩, .int .i64 0], .int .i64 6]) (by simp [results, Tryz.results14, go_sem, r0, r1, r2]) rfl ⟨by unfold splNil; rw [HV.out], HX.out.a.bel3⟩
                · have d3 : decide (255 < count) = false := decide_eq_false c3
                  have KO : Hid (∀ w, Calls Tryz.prog 42 #[.int .u64 (IntKind.u64.wrap count)] w fun e w' => e = .returned (.string (B count.toNat)) ∧ Below w.heap.size w w') := Lib.hid fun w => r01_Of' _ count.toNat w (by rw [IntKind.wrap_u64]; omega) (by omega)
                  obtain ⟨r, hr⟩ : ∃ r, r = natCmp (B count.toNat) q := ⟨_, rfl⟩
                  have KCm := fun w => r01_Cmp (B count.toNat) q w
                  rw [← hr] at hc KCm
                  have KCm := Lib.hid KCm
                  have d4 : decide (r < 0) = false := decide_eq_false (by omega)
                  have d5 : decide (0 ≤ r) = true := decide_eq_true (by omega)
                  clear hc c1 c2 c3 hr
                  go_enter Tryz.func14, Tryz.ntmps14
                  go_wp2_with (first
                    | (go_at_call 33; (with_reducible refine (KV1.out _).mono ?_); rintro e w1 ⟨rfl, rfl⟩; have HA1 := Lib.hid (HA0.out.alloc (.cells #[.string q, .string s] 22)); obtain ⟨⟨t0, t1, t2, _, _⟩, _, _, _⟩ := HA1.out)
                    | (go_at_call 40; (with_reducible refine (KG.out _ HA1.out.a.bel).mono ?_); rintro e w2 ⟨rfl, hb2⟩; have HA2 := Lib.hid (HA1.out.next hb2); clear hb2)
                    | (go_at_call 34; (with_reducible refine (KF.out _).mono ?_); rintro e w3 ⟨rfl, hb3⟩; have HA3 := Lib.hid (HA2.out.next hb3); clear hb3)
                    | (go_at_call 35; (with_reducible refine (KB2.out _ _).mono ?_); rintro e w4 ⟨rfl, hb4⟩; have HX := Lib.hid ((HA3.out.alloc (.cells #[.string s] 22)).next hb4); obtain ⟨r0, r1, r2, g0, g1, g2⟩ := HX.out.a.r0; clear hb4)
                    | (go_at_call 42; (with_reducible refine (KO.out _).mono ?_); rintro e w5 ⟨rfl, hb5⟩; replace HX := Lib.hid (HX.out.next hb5); obtain ⟨r0, r1, r2, g0, g1, g2⟩ := HX.out.a.r0; clear hb5)
                    | (go_at_call 41; (with_reducible refine (KCm.out _).mono ?_); rintro e w6 ⟨rfl, hb6⟩; replace HX := Lib.hid (HX.out.next hb6); obtain ⟨r0, r1, r2, g0, g1, g2⟩ := HX.out.a.r0; clear hb6))
                  exact bodyPost_ret (v := .tuple #[.slice none 0 0, .agg #[.slice none 0 0, .string ⟨#[]⟩, .int .i64 0], .int .i64 6]) (by simp [results, Tryz.results14, go_sem, r0, r1, r2]) rfl ⟨by unfold splNil; rw [HV.out], HX.out.a.bel3⟩
          · rw [if_neg hc] at hv0
            exact absurd hv0 HE.out
      · rw [if_neg h0] at hv0
        have HV := Lib.hid hv0
        have k0 : (e0 == 0) = false := by rw [beq_eq_false_iff_ne]; exact h0
        clear hv1 hg hv0 he0 h0 KB2
        go_enter Tryz.func14, Tryz.ntmps14
        go_wp2_with (first
          | (go_at_call 33; (with_reducible refine (KV1.out _).mono ?_); rintro e w1 ⟨rfl, rfl⟩; have HA1 := Lib.hid (HA0.out.alloc (.cells #[.string q, .string s] 22)); obtain ⟨⟨t0, t1, t2, _, _⟩, _, _, _⟩ := HA1.out)
          | (go_at_call 40; (with_reducible refine (KG.out _ HA1.out.a.bel).mono ?_); rintro e w2 ⟨rfl, hb2⟩; have HA2 := Lib.hid (HA1.out.next hb2); clear hb2)
          | (go_at_call 34; (with_reducible refine (KF.out _).mono ?_); rintro e w3 ⟨rfl, hb3⟩; have HX := Lib.hid (HA2.out.next hb3); obtain ⟨r0, r1, r2, g0, g1, g2⟩ := HX.out.a.r0; clear hb3))
        exact bodyPost_ret (v := .tuple #[.slice none 0 0, .agg #[.slice none 0 0, .string ⟨#[]⟩, .int .i64 0], .int .i64 e0]) (by simp [results, Tryz.results14, go_sem, r0, r1, r2]) rfl ⟨by unfold splNil; rw [HV.out], HX.out.a.bel3⟩

/-- The row of coins grows by a coin: behind the draw, the next tape's box and the store into the tape. -/
theorem ref_app {w wr w2 : World} {k : Nat} {ls : List ByteArray} {u : Value} (hO : OwnS wr (w.heap.size + 2) u k ls) (hb2 : Below wr.heap.size wr w2) (o o2 : Obj) (p q r : Value) :
    OwnS (((((w2.alloc o).setCell ⟨w.heap.size, 0, none⟩ p).setCell ⟨w.heap.size, 1, none⟩ q).setCell ⟨w.heap.size, 2, none⟩ r).alloc o2) (w.heap.size + 2) u k ls := by
  have hl : w.heap.size < w.heap.size + 2 := by omega
  have h1 := OwnS.kept (B := 0) (OwnS.kept (B := 0) hO hb2) ((Below.refl w2.heap.size w2).alloc (Nat.le_refl _) o)
  exact OwnS.kept (B := 0) (((h1.far (p := ⟨w.heap.size, 0, none⟩) hl).far (p := ⟨w.heap.size, 1, none⟩) hl).far (p := ⟨w.heap.size, 2, none⟩) hl) ((Below.refl _ _).alloc (Nat.le_refl _) _)
theorem ref_one (w2 : World) (g : Nat) (o : Obj) (p q r : Value) (T : TypeId) (x : ByteArray) :
    SLs (((((w2.alloc o).setCell ⟨g, 0, none⟩ p).setCell ⟨g, 1, none⟩ q).setCell ⟨g, 2, none⟩ r).alloc (.cells #[.string x] T)) (((((w2.alloc o).setCell ⟨g, 0, none⟩ p).setCell ⟨g, 1, none⟩ q).setCell ⟨g, 2, none⟩ r).alloc (.cells #[.string x] T)).heap.size (some ⟨w2.heap.size + 1, 0, none⟩) [x] := by
  have h := sls_one ((((w2.alloc o).setCell ⟨g, 0, none⟩ p).setCell ⟨g, 1, none⟩ q).setCell ⟨g, 2, none⟩ r) T x
  have e : ((((w2.alloc o).setCell ⟨g, 0, none⟩ p).setCell ⟨g, 1, none⟩ q).setCell ⟨g, 2, none⟩ r).heap.size = w2.heap.size + 1 := by simp
  rw [e] at h
  exact h
theorem AtOld.ne3 {wx : World} {At : Option Addr} {vals : List ByteArray} {j b : Nat} {x y t : Value} (hx : SLs wx j At vals) (h : ∀ a, At = some a → b < a.block) :
    SLs (((wx.setCell ⟨b, 0, none⟩ x).setCell ⟨b, 1, none⟩ y).setCell ⟨b, 2, none⟩ t) j At vals := SLs.farZ hx (fun a ha => by have := h a ha; omega)
theorem SLs.grown {w w' : World} {A : Option Addr} {ls : List ByteArray} {row : Option Nat} (h : SLs w w.heap.size A ls) (hg : w.grownBy w' row) (hr : ∀ a k, A = some a → row = some k → a.block ≠ k) : SLs w' w'.heap.size A ls := by
  intro hne
  obtain ⟨ad, e, hb, hc⟩ := h hne
  refine ⟨ad, e, Nat.lt_of_lt_of_le hb hg.size, fun j hj => ?_⟩
  have hbl : (ad.add j).block = ad.block := by unfold Addr.add; split <;> rfl
  have hh : w'.heap[(ad.add j).block]? = w.heap[(ad.add j).block]? := by
    rw [hbl]
    exact hg.block _ hb (fun e2 => by
      cases hrow : row with
      | none => rw [hrow] at e2; cases e2
      | some k => rw [hrow] at e2; cases e2; exact hr ad _ e hrow rfl)
  exact (World.cell?_of_block hh).trans (hc j hj)
theorem ofk1 {k : Nat} (h : k < 256) : IntKind.u64.wrap ((k : Int) + 1) = ((k + 1 : Nat) : Int) := by rw [IntKind.wrap_u64]; omega
theorem stp64b {k : Nat} (h : k < 256) : Value.int .i64 (wrap64 ((k : Int) + 1 + 1)) = .int .i64 ((k + 1 + 1 : Nat) : Int) := by rw [IntWalk.wrap64_in _ (by omega)]; rfl
theorem mes64b {k count : Nat} (h : k < count) (h2 : k < 256) : count + 1 - (intOf (.int .i64 (wrap64 ((k : Int) + 1 + 1)))).toNat < count + 1 - (intOf (.int .i64 ((k : Int) + 1))).toNat := by
  rw [IntWalk.wrap64_in _ (by omega)]
  show count + 1 - ((k : Int) + 1 + 1).toNat < count + 1 - ((k : Int) + 1).toNat
  omega
def lenV : Value → Nat
  | .slice _ n _ => n
  | _ => 0
theorem measL {need i : Nat} {A5 Au : Option Addr} {c5 cu : Nat} (h : i + 1 < need) : need - lenV (.slice A5 (i + 1 + 1) c5) < need - lenV (.slice Au (i + 1) cu) := by
  show need - (i + 1 + 1) < need - (i + 1)
  omega
theorem ref_sz {w W3 : World} {A : Option Addr} {n c : Nat} {seed : ByteArray} {z : Int} (h : AtS w W3 A n c seed z) (p q r : Value) (o2 : Obj) : w.heap.size + 2 ≤ (((((W3.setCell ⟨w.heap.size, 0, none⟩ p).setCell ⟨w.heap.size, 1, none⟩ q).setCell ⟨w.heap.size, 2, none⟩ r).alloc o2)).heap.size := by
  rw [World.size_alloc]
  simp
  have := h.sz
  omega
theorem ref_step {w wr w2 w5 : World} {A' A2 : Option Addr} {n c' c2 k : Nat} {seed x : ByteArray} {zi : Int} {vals ls : List ByteArray} {u : Value} {T T2 : TypeId} (hA : AtS w wr A' n c' seed zi) (hO : OwnS wr (w.heap.size + 2) u k ls) (hb2 : Below wr.heap.size wr w2)
    (hs2 : SLs w2 w2.heap.size A2 vals) (hf2 : ∀ a, A2 = some a → wr.heap.size ≤ a.block)
    (hg : (((((w2.alloc (.cells #[.slice A2 n c2, .string seed, .int .i64 (zi + 1)] T)).setCell ⟨w.heap.size, 0, none⟩ (.slice A2 n c2)).setCell ⟨w.heap.size, 1, none⟩ (.string seed)).setCell ⟨w.heap.size, 2, none⟩ (.int .i64 (zi + 1))).alloc (.cells #[.string x] T2)).grownBy w5 u.ownBlock) :
    AtS w w5 A2 n c2 seed (zi + 1) ∧ SLs w5 w5.heap.size A2 vals := by
  have hsz := hA.sz
  have h3 := (hA.next hb2).next ((Below.refl w2.heap.size w2).alloc (Nat.le_refl _) (.cells #[.slice A2 n c2, .string seed, .int .i64 (zi + 1)] T))
  have h4 := (h3.put (A' := A2) (n' := n) (c' := c2) (seed' := seed) (z' := zi + 1)).alloc (.cells #[.string x] T2)
  constructor
  · exact h4.nextB (below_grown hg h4.sz (fun g hg => (hO.block g hg).1))
  · have s3 := hs2.to ((Below.refl w2.heap.size w2).alloc (Nat.le_refl _) (.cells #[.slice A2 n c2, .string seed, .int .i64 (zi + 1)] T))
    have s4 := AtOld.ne3 (b := w.heap.size) (x := .slice A2 n c2) (y := .string seed) (t := .int .i64 (zi + 1)) s3 (fun a ha => by have := hf2 a ha; omega)
    have s5 := (s4.more (b' := ((((w2.alloc (.cells #[.slice A2 n c2, .string seed, .int .i64 (zi + 1)] T)).setCell ⟨w.heap.size, 0, none⟩ (.slice A2 n c2)).setCell ⟨w.heap.size, 1, none⟩ (.string seed)).setCell ⟨w.heap.size, 2, none⟩ (.int .i64 (zi + 1))).heap.size) (by simp)).to ((Below.refl _ _).alloc (Nat.le_refl _) (.cells #[.string x] T2))
    exact s5.grown hg (fun a g ha hgg => by have h1 := hf2 a ha; have h2 := (hO.block g hgg).2; omega)
theorem r19_Split_ok (Q S need count : Nat) (vals : List ByteArray) (A : Option Addr) (n c : Nat) (seed : ByteArray) (z : Int) (w : World) (hE : isE (B Q) = 0) (hS : S < Q) (h1 : 1 ≤ need) (h2 : need ≤ count) (h3 : count ≤ 255) (h4 : count < Q)
    (hn : vals.length = n) (hm : n ≤ 1000) (h : SLs w w.heap.size A vals) (hg : goodT vals z = true) (hs : seed.size ≤ 100000) :
    Calls Tryz.prog 14 #[.string (B Q), .string (B S), .int .i64 need, .int .i64 count, .agg #[.slice A n c, .string seed, .int .i64 z]] w fun e w' => splPost w.heap.size Q S need count vals A n seed z e w' ∧ Below w.heap.size w w' := by
  have hQ := isE_zero hE
  rw [num_B] at hQ
  have hQ64 := hQ.lt
  have hlim : S < lim := k_lim (by omega)
  have hvQ := valid_B (u64_lt_lim hQ64)
  have hvS := valid_B hlim
  have KV := fun (W : World) T => r19_valid [B Q, B S] (some ⟨W.heap.size, 0, none⟩) 2 2 (W.alloc (.cells #[.string (B Q), .string (B S)] T)) rfl (by decide) (sls_two W T (B Q) (B S))
  have e2 : [B Q, B S].all valid = true := by simp [hvQ, hvS]
  rw [e2] at KV
  have KV1 := Lib.hid (fun T => by
    have := KV ((w.alloc (.cells #[.slice A n c, .string seed, .int .i64 z] 36)).alloc (.cells #[.slice none 0 0, .string ⟨#[]⟩, .int .i64 0] 36)) T
    rw [World.size_alloc, World.size_alloc] at this
    exact this)
  have KG := fun wq (h1 : Below w.heap.size w wq) => r06_Good vals A n c seed z wq hn (Nat.le_trans hm (by decide)) ((h.below h1).more h1.size)
  rw [hg] at KG
  have KG := Lib.hid KG
  have KF := fun w => r19_field (B Q) w
  rw [hE] at KF
  have KF := Lib.hid KF
  have KB2 := fun (W : World) T => r19_below (B Q) [B S] (some ⟨W.heap.size, 0, none⟩) 1 1 (W.alloc (.cells #[.string (B S)] T)) rfl (by decide) (sls_one W T (B S))
  have hbl : blwS (B Q) [B S] = true := by
    unfold blwS
    simp only [List.all_cons, List.all_nil, Bool.and_true, decide_eq_true_eq]
    rw [natCmp_lt hvS hvQ, num_B, num_B]
    exact hS
  rw [hbl] at KB2
  have KB2 := Lib.hid KB2
  have KO : Hid (∀ w, Calls Tryz.prog 42 #[.int .u64 (IntKind.u64.wrap (count : Int))] w fun e w' => e = .returned (.string (B count)) ∧ Below w.heap.size w w') := Lib.hid fun w => r01_Of' _ count w (by rw [IntKind.wrap_u64]; omega) (by omega)
  have KCm := fun w => r01_Cmp (B count) (B Q) w
  rw [natCmp_BB (k_lim (by omega)) (u64_lt_lim hQ64), cmpN_lt h4] at KCm
  have KCm := Lib.hid KCm
  have KD := Lib.hid (fun (i : Nat) (A' : Option Addr) (c' : Nat) wq (h2 : SLs wq wq.heap.size A' vals) => r06_Below vals A' n c' seed (z + (i : Nat)) Q wq hn hm h2 (by omega) hQ64 hs)
  have HA0 := Lib.hid (AtS.start w A n c seed z)
  have HSV := Lib.hid h
  have H2 := Lib.hid (And.intro h1 (And.intro h2 (And.intro h3 h4)))
  have HQ := Lib.hid hQ
  have HSQ := Lib.hid hS
  have d1 : decide ((need : Int) < 1) = false := decide_eq_false (by omega)
  have d2 : decide ((count : Int) < (need : Int)) = false := decide_eq_false (by omega)
  have d3 : decide ((255 : Int) < (count : Int)) = false := decide_eq_false (by omega)
  have d5 : need ≤ count := h2
  have d6 : decide (count < need) = false := decide_eq_false (Nat.not_lt.2 h2)
  clear hE hQ hQ64 hlim hbl hS h1 h2 h3 h4 hn hm h hg hs hvQ hvS e2 KV
  go_enter Tryz.func14, Tryz.ntmps14
  go_upto_region 10 with (first
    | (go_at_call 33; (with_reducible refine (KV1.out _).mono ?_); rintro e w1 ⟨rfl, rfl⟩; have HA1 := Lib.hid (HA0.out.alloc (.cells #[.string (B Q), .string (B S)] 22)); obtain ⟨⟨t0, t1, t2, _, _⟩, _, _, _⟩ := HA1.out)
    | (go_at_call 40; (with_reducible refine (KG.out _ HA1.out.a.bel).mono ?_); rintro e w2 ⟨rfl, hb2⟩; have HA2 := Lib.hid (HA1.out.next hb2); clear hb2)
    | (go_at_call 34; (with_reducible refine (KF.out _).mono ?_); rintro e w3 ⟨rfl, hb3⟩; have HA3 := Lib.hid (HA2.out.next hb3); clear hb3)
    | (go_at_call 35; (with_reducible refine (KB2.out _ _).mono ?_); rintro e w4 ⟨rfl, hb4⟩; have HA4 := Lib.hid ((HA3.out.alloc (.cells #[.string (B S)] 22)).next hb4); clear hb4)
    | (go_at_call 42; (with_reducible refine (KO.out _).mono ?_); rintro e w5 ⟨rfl, hb5⟩; have HA5 := Lib.hid (HA4.out.next hb5); clear hb5)
    | (go_at_call 41; (with_reducible refine (KCm.out _).mono ?_); rintro e w6 ⟨rfl, hb6⟩; have HA6 := Lib.hid (HA5.out.next hb6); clear hb6))
  go_wp2_with fail
  have HO6 := Lib.hid (OwnS.lit w6 (w.heap.size + 2) [B S] 1 HA6.out.sz rfl (by decide))
  have HB6 := Lib.hid (HA6.out.alloc (.cells #[.string (B S)] 22))
  have HS6 := Lib.hid (HSV.out.to (HB6.out.a.bel))
  clear KV1 KG KF KB2 KO KCm HA1 HA2 HA3 HA4 HA5 HA6 d1 d2 d3 d5 d6 t0 t1 t2
  go_loopw [14] (fun u wr => ∃ (i : Nat) (A' : Option Addr) (c' : Nat), i + 1 ≤ need ∧ manyE vals seed z Q i = 0 ∧ AtOld A A' (w.heap.size + 2) ∧ AtS w wr A' n c' seed (z + (i : Nat)) ∧ SLs wr wr.heap.size A' vals ∧ OwnS wr (w.heap.size + 2) u (i + 1) (B S :: (coinsL vals seed Q z i).map B)) (fun u _ => need - lenV u)
  case atStart => exact ⟨0, A, c, H2.out.1, rfl, .inl rfl, by simpa using HB6.out, HS6.out, HO6.out⟩
  case round =>
    clear HO6 HB6 HS6
    obtain ⟨i, A', c', hi, hm0, hold, hat, hsl, hown⟩ := hrel
    obtain ⟨Au, cu, rfl⟩ := hown.slice
    have HA := Lib.hid hat
    have HSL := Lib.hid hsl
    have HO := Lib.hid hown
    have HM0 := Lib.hid hm0
    have HOLD := Lib.hid hold
    obtain ⟨⟨t0, t1, t2, _, _⟩, f0, f1, f2⟩ := hat
    clear hsl hown hm0 hold
    by_cases hlt : i + 1 < need
    · have p3 : decide (i + 1 < need) = true := decide_eq_true hlt
      have p4 : decide ((i : Int) + 1 < (need : Int)) = true := decide_eq_true (by omega)
      have KE0 := KD.out i A' c' wr HSL.out
      obtain ⟨zi, hzi⟩ : ∃ zi, zi = z + (i : Int) := ⟨_, rfl⟩
      by_cases hd : (belowS vals seed (z + (i : Nat)) Q).1 = 0
      case neg =>
        obtain ⟨d, hd'⟩ : ∃ d, d = (belowS vals seed (z + (i : Nat)) Q).1 := ⟨_, rfl⟩
        have HST := Lib.hid (manyE_stop HM0.out hd (need - 1) (by omega))
        have KF := Lib.hid (KE0.mono (R' := fun e w' => e = .returned (.tuple #[.string ⟨#[]⟩, .agg #[.slice none 0 0, .string ⟨#[]⟩, .int .i64 0], .int .i64 d]) ∧ Below wr.heap.size wr w') (by
          rintro e w' ⟨⟨h0, _⟩ | ⟨_, h1⟩, hb⟩
          · exact absurd h0 hd
          · rw [← hd'] at h1; exact ⟨h1, hb⟩))
        rw [← hd'] at HST hd
        have HD := Lib.hid hd
        have k0 : (d == 0) = false := by rw [beq_eq_false_iff_ne]; exact hd
        rw [← hzi] at KF HA t2
        clear hd hd' KE0 hlt hi hzi
        go_wp2_with (first
          | (go_at_call 43; (with_reducible refine KF.out.mono ?_); rintro e w2 ⟨rfl, hb2⟩
             have HA4 := Lib.hid ((HA.out.next hb2).next ((Below.refl _ _).alloc (Nat.le_refl _) (.cells #[.slice none 0 0, .string ⟨#[]⟩, .int .i64 0] 36)))
             obtain ⟨r0, r1, r2, g0, g1, g2⟩ := HA4.out.a.r0
             clear hb2))
        refine bodyPost_ret (v := .tuple #[.slice none 0 0, .agg #[.slice none 0 0, .string ⟨#[]⟩, .int .i64 0], .int .i64 d]) (by simp [results, Tryz.results14, go_sem, r0, r1, r2]) rfl ⟨Or.inr ⟨?_, ?_⟩, HA4.out.a.bel3⟩
        · rw [HST.out]; exact HD.out
        · rw [HST.out]; rfl
      case pos =>
      have HMN := Lib.hid (manyE_next HM0.out hd)
      have KE := Lib.hid (KE0.mono (R' := fun e w' => (∃ A2 c2, e = .returned (.tuple #[.string (B (belowS vals seed (z + (i : Nat)) Q).2), .agg #[.slice A2 n c2, .string seed, .int .i64 (z + (i : Nat) + 1)], .int .i64 0]) ∧ SLs w' w'.heap.size A2 vals ∧ ∀ a, A2 = some a → wr.heap.size ≤ a.block) ∧ Below wr.heap.size wr w') (by
        rintro e w' ⟨⟨_, A2, c2, rfl, hs, hf⟩ | ⟨h, _⟩, hb⟩
        · exact ⟨⟨A2, c2, rfl, hs, hf⟩, hb⟩
        · exact absurd hd h))
      clear hd KE0
      obtain ⟨x, hx⟩ : ∃ x, x = (belowS vals seed (z + (i : Nat)) Q).2 := ⟨_, rfl⟩
      rw [← hx, ← hzi] at KE
      rw [← hzi] at HA
      have HX := Lib.hid hx
      have HZI := Lib.hid hzi
      have HLT := Lib.hid hlt
      rw [← hzi] at t2
      clear hx hlt hzi hi
      go_wp2_with (first
        | (go_at_call 43; (with_reducible refine KE.out.mono ?_); rintro e w2 ⟨⟨A2, c2, rfl, hsl, hf⟩, hb2⟩
           have HB2 := Lib.hid hb2
           have HS2 := Lib.hid hsl
           have HF2 := Lib.hid hf
           have HA3 := Lib.hid ((HA.out.next hb2).next ((Below.refl _ _).alloc (Nat.le_refl _) (.cells #[.slice A2 n c2, .string seed, .int .i64 (zi + 1)] 36)))
           obtain ⟨⟨t0, t1, t2, _, _⟩, f0, f1, f2⟩ := HA3.out
           clear hb2 hsl hf)
        | (at_builtin; refine wpList_append_S rfl (.tmp 81) (.tmp 83) rfl (w.heap.size + 2) _ (i + 1) _ rfl (ref_app HO.out HB2.out _ _ _ _ _) (some ⟨w2.heap.size + 1, 0, none⟩) 1 1 [B x] rfl (ref_one _ _ _ _ _ _ _ _) rfl (by have := HLT.out; have := H2.out; omega) (ref_sz HA3.out _ _ _ _) ?_; intro v5 w5 h1' h2' h3'
           have HM5 := Lib.hid (ref_step HA.out HO.out HB2.out HS2.out HF2.out h2')
           have HO5 := Lib.hid h1'
           clear h1' h2' h3'))
      go_roundw
      case rel =>
        refine ⟨i + 1, A2, c2, HLT.out, HMN.out, .inr (fun a ha => Nat.le_trans HA.out.sz (HF2.out a ha)), ?_, HM5.out.2, ?_⟩
        · rw [show z + ((i + 1 : Nat) : Int) = zi + 1 from zi_next HZI.out]; exact HM5.out.1
        · have e1 : B S :: (coinsL vals seed Q z (i + 1)).map B = (B S :: (coinsL vals seed Q z i).map B) ++ [B x] := by rw [coinsL_snoc, List.map_append, HX.out]; rfl
          rw [e1]; exact HO5.out
      case measure =>
        obtain ⟨A5, c5, rfl⟩ := HO5.out.slice
        exact measL HLT.out
    · have hin : i = need - 1 := by omega
      have p3 : decide (i + 1 < need) = false := decide_eq_false hlt
      have p4 : decide ((i : Int) + 1 < (need : Int)) = false := decide_eq_false (by omega)
      have hME : manyE vals seed z Q (need - 1) = 0 := hin ▸ HM0.out
      have HME := Lib.hid hME
      have HCL := Lib.hid (coinsL_ltQ (by have := HQ.out.two; omega) (manyE_zero hME))
      have HIN := Lib.hid hin
      obtain ⟨N, hN⟩ : ∃ N, i + 1 = N := ⟨_, rfl⟩
      have HNN := Lib.hid (show N = need by omega)
      have HO1 : Hid (OwnS wr (w.heap.size + 2) (.slice Au N cu) N ((S :: coinsL vals seed Q z (need - 1)).map B)) := Lib.hid (by rw [← hN, ← hin]; exact HO.out)
      have HA1 : Hid (AtS w wr A' n c' seed (z + ((need - 1 : Nat) : Int))) := Lib.hid (by rw [← hin]; exact HA.out)
      obtain ⟨zt, hzt⟩ : ∃ zt, zt = z + ((need - 1 : Nat) : Int) := ⟨_, rfl⟩
      obtain ⟨cs, hcs⟩ : ∃ cs, S :: coinsL vals seed Q z (need - 1) = cs := ⟨_, rfl⟩
      have HCS := Lib.hid hcs
      have HZT := Lib.hid hzt
      have hzi : z + (i : Int) = zt := by rw [hzt, hin]
      rw [hcs] at HO1
      rw [← hzt] at HA1
      rw [hzi] at t2
      obtain ⟨A9, c9, e9, hs9⟩ := HO1.out.form HA1.out.sz
      cases e9
      have HS9 := Lib.hid hs9
      have KV := Lib.hid (fun (k : Nat) wq (hk : k < count) (hb : Below wr.heap.size wr wq) => r19_Value Q (k + 1) cs Au N cu wq HQ.out.lt (by have := H2.out; omega) (by
          rw [← hcs]; intro a ha
          rcases List.mem_cons.1 ha with rfl | ha
          · exact HSQ.out
          · exact HCL.out _ ha) (by rw [← hcs, List.length_cons, coinsL_len]; omega) (by have := H2.out; omega) (HS9.out.to hb))
      have KO2 := Lib.hid (fun (k : Nat) (y : Int) wq (hk : k < 256) (hy : y = ((k + 1 : Nat) : Int)) => r01_Of' y (k + 1) wq hy (by omega))
      have HCN := Lib.hid H2.out.2.2.1
      rename World => w9
      rw [hN]
      have p5 : decide (N < need) = false := decide_eq_false (by have := HNN.out; omega)
      have p6 : decide ((N : Int) < (need : Int)) = false := decide_eq_false (by have := HNN.out; omega)
      clear hN p3 p4 hcs hzt hzi hlt hi hin hME hs9 KD HA HO HM0
      go_wp2_with fail
      go_loopw [18, 19] (fun u v w2r => ∃ k : Nat, v = .int .i64 ((k + 1 : Nat) : Int) ∧ k ≤ count ∧ OwnS w2r w9.heap.size u k (shrL Q k cs) ∧ Below w9.heap.size w9 w2r) (fun _ v _ => count + 1 - (intOf v).toNat)
      case atStart => exact ⟨0, rfl, Nat.zero_le _, OwnS.nil_ _ _, Below.refl _ _⟩
      case round =>
        obtain ⟨k, rfl, hk, hown, hbel⟩ := hrel
        obtain ⟨Av, cv, rfl⟩ := hown.slice
        have HOWN := Lib.hid hown
        have HBEL := Lib.hid hbel
        clear hown hbel
        by_cases hlt : k < count
        · have HLT := Lib.hid hlt
          have H256 : Hid (k < 256) := Lib.hid (by have := HCN.out; omega)
          have q1 : decide (k + 1 ≤ count) = true := decide_eq_true (by omega)
          have q2 : decide ((k : Int) + 1 ≤ (count : Int)) = true := decide_eq_true (by omega)
          have q3 : (k : Int) + 1 ≤ (count : Int) := by omega
          clear hk hlt
          go_wp2_with (first
            | (go_at_call 42; (with_reducible refine (KO2.out k _ _ H256.out (ofk1 H256.out)).mono ?_); rintro e w2 ⟨rfl, hb2⟩; have HB2 := Lib.hid hb2; clear hb2)
            | (go_at_call 36; (with_reducible refine (KV.out k _ HLT.out (below2 HBEL.out HB2.out)).mono ?_); rintro e w3 ⟨rfl, hb3⟩; have hcb := comb_step HOWN.out HBEL.out (below2 HB2.out hb3) (B (valL Q (k + 1) cs)); have HOW2 := Lib.hid hcb.1; have HBA := Lib.hid hcb.2; clear hcb hb3)
            | (at_builtin; refine wpList_append_S rfl (.tmp 90) (.tmp 97) rfl w9.heap.size _ k _ rfl HOW2.out _ 1 1 [B (valL Q (k + 1) cs)] rfl (sls_one _ _ _) rfl (by have := H256.out; omega) HBA.out.size ?_; intro v5 w5 h1' h2' h3'; rw [← shrL_snoc] at h1'; have HO5 := Lib.hid h1'; have HB5 := Lib.hid (HBA.out.trans (below_grown h2' HBA.out.size (fun g hg => (HOW2.out.blockOf g hg).1))); clear h1' h2' h3'))
          go_roundw
          case rel => exact ⟨k + 1, stp64b H256.out, HLT.out, HO5.out, HB5.out⟩
          case measure => exact mes64b HLT.out H256.out
        · have q1 : decide (k + 1 ≤ count) = false := decide_eq_false (by omega)
          have q2 : decide ((k : Int) + 1 ≤ (count : Int)) = false := decide_eq_false (by omega)
          obtain rfl : k = count := by omega
          have HA := Lib.hid (HA1.out.nextB (HBEL.out.mono HA1.out.sz))
          obtain ⟨⟨t0, t1, t2, _, _⟩, f0, f1, f2⟩ := HA.out
          obtain ⟨r0, r1, r2, g0, g1, g2⟩ := HA.out.a.r0
          clear hlt hk
          go_wp2_with fail
          go_region
          all_goals
            go_wp2_with fail
            refine bodyPost_ret (v := .tuple #[.slice Av k cv, .agg #[.slice A' n c', .string seed, .int .i64 zt], .int .i64 0]) (by simp [results, Tryz.results14, go_sem, r0, r1, r2]) rfl ⟨Or.inl ⟨HME.out, Av, cv, A', c', by rw [HZT.out], ?_, ?_, HOLD.out.up (by omega)⟩, (HA.out.a.bel3).drew⟩
            · have hl : w.heap.size + 1 < w9.heap.size := HA1.out.sz
              have h6 := OwnS.kept (B := 0) (((HOWN.out.far (p := ⟨w.heap.size + 1, 0, none⟩) (u := .slice A' n c') hl).far (p := ⟨w.heap.size + 1, 1, none⟩) (u := .string seed) hl).far (p := ⟨w.heap.size + 1, 2, none⟩) (u := .int .i64 zt) hl) (Below.refl _ _).drew
              obtain ⟨A2, c2, e2, hs2⟩ := h6.form (by have := HBEL.out.size; simpa [World.drew] using this)
              cases e2
              rw [HCS.out]
              exact hs2
            · have h7 := SLs.farOld (b := w.heap.size + 1) (x := .slice A' n c') (y := .string seed) (t := .int .i64 zt) HOLD.out HSV.out (Nat.le_succ _) (Nat.lt_succ_self _) (HSL.out.to HBEL.out)
              exact (SLs.drew h7).more (by simp [World.drew])

end Go.Proofs.YtlcmlbdgibjmlaaGreatDoor
