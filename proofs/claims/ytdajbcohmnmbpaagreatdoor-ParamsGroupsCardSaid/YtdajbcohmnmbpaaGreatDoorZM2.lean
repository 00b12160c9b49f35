/- The walks of package params: the search. The walks of package params: the search, with SafePrime's test. Written from Z3 by replacing the closure's name. The walks of package params: Prime. The walks of package params: SafePrime. -/
import Derived.Test.YtdajbcohmnmbpaaGreatDoorZM1
namespace Go.Proofs.YtdajbcohmnmbpaaGreatDoor
open Go.RowKit
set_option maxRecDepth 100000
set_option linter.unusedVariables false
set_option maxHeartbeats 4000000

theorem AtB.put {w wx : World} {A A' : Option Addr} {n c n' c' : Nat} {seed seed' : ByteArray} {z z' : Int} (h : AtB w wx A n c seed z) :
    AtB w (((wx.setCell ⟨w.heap.size, 0, none⟩ (.slice A' n' c')).setCell ⟨w.heap.size, 1, none⟩ (.string seed')).setCell ⟨w.heap.size, 2, none⟩ (.int .i64 z')) A' n' c' seed' z' := by
  refine ⟨?_, ?_, ?_, ?_, ?_⟩
  · refine (World.cell?_setCell_other _ _ _ _ (by simp)).trans ((World.cell?_setCell_other _ _ _ _ (by simp)).trans ?_)
    exact World.cell?_setCell_same _ _ _ h.t0
  · refine (World.cell?_setCell_other _ _ _ _ (by simp)).trans ?_
    exact World.cell?_setCell_same _ _ _ ((World.cell?_setCell_other _ _ _ _ (by simp)).trans h.t1)
  · exact World.cell?_setCell_same _ _ _ ((World.cell?_setCell_other _ _ _ _ (by simp)).trans ((World.cell?_setCell_other _ _ _ _ (by simp)).trans h.t2))
  · have hp : ∀ k, w.heap.size + 1 ≠ (⟨w.heap.size, k, none⟩ : Addr).block := fun k => Nat.succ_ne_self _
    exact (Below.heap_setCell _ _ _ _ (hp 2)).trans ((Below.heap_setCell _ _ _ _ (hp 1)).trans ((Below.heap_setCell _ _ _ _ (hp 0)).trans h.r))
  · exact ((h.bel.setCell (p := ⟨w.heap.size, 0, none⟩) (Nat.le_refl _) _).setCell (p := ⟨w.heap.size, 1, none⟩) (Nat.le_refl _) _).setCell (p := ⟨w.heap.size, 2, none⟩) (Nat.le_refl _) _
/-- The same, and the tape's box may be written. -/
structure AtS (w wx : World) (A : Option Addr) (n c : Nat) (seed : ByteArray) (z : Int) : Prop where
  a : AtB w wx A n c seed z
  f0 : wx.frozen? ⟨w.heap.size, 0, none⟩ = false
  f1 : wx.frozen? ⟨w.heap.size, 1, none⟩ = false
  f2 : wx.frozen? ⟨w.heap.size, 2, none⟩ = false
theorem AtS.start (w : World) (A : Option Addr) (n c : Nat) (seed : ByteArray) (z : Int) : AtS w ((w.alloc (.cells #[.slice A n c, .string seed, .int .i64 z] 24)).alloc (.cells #[.slice none 0 0, .string ⟨#[]⟩, .int .i64 0] 24)) A n c seed z :=
  ⟨AtB.start w A n c seed z, by simp [go_sem], by simp [go_sem], by simp [go_sem]⟩
theorem AtS.next {w wx wy : World} {A : Option Addr} {n c : Nat} {seed : ByteArray} {z : Int} (h : AtS w wx A n c seed z) (hb : Below wx.heap.size wx wy) : AtS w wy A n c seed z :=
  have lt : w.heap.size < wx.heap.size := cell_in (a := ⟨w.heap.size, 0, none⟩) h.a.t0
  ⟨h.a.next hb, (hb.frozen (p := ⟨w.heap.size, 0, none⟩) lt).trans h.f0, (hb.frozen (p := ⟨w.heap.size, 1, none⟩) lt).trans h.f1, (hb.frozen (p := ⟨w.heap.size, 2, none⟩) lt).trans h.f2⟩
theorem AtS.put {w wx : World} {A A' : Option Addr} {n c n' c' : Nat} {seed seed' : ByteArray} {z z' : Int} (h : AtS w wx A n c seed z) :
    AtS w (((wx.setCell ⟨w.heap.size, 0, none⟩ (.slice A' n' c')).setCell ⟨w.heap.size, 1, none⟩ (.string seed')).setCell ⟨w.heap.size, 2, none⟩ (.int .i64 z')) A' n' c' seed' z' :=
  ⟨h.a.put, (World.frozen?_setCell _ _ _ _).trans ((World.frozen?_setCell _ _ _ _).trans ((World.frozen?_setCell _ _ _ _).trans h.f0)), (World.frozen?_setCell _ _ _ _).trans ((World.frozen?_setCell _ _ _ _).trans ((World.frozen?_setCell _ _ _ _).trans h.f1)), (World.frozen?_setCell _ _ _ _).trans ((World.frozen?_setCell _ _ _ _).trans ((World.frozen?_setCell _ _ _ _).trans h.f2))⟩
theorem SLs.put {w : World} {g b k : Nat} {vals : List ByteArray} {x y t u : Value} (hs : SLs w k (some ⟨g, 0, none⟩) vals) (hb : w.cell? ⟨b, 0, none⟩ = some u) (hu : ∀ s, u ≠ .string s) :
    SLs (((w.setCell ⟨b, 0, none⟩ x).setCell ⟨b, 1, none⟩ y).setCell ⟨b, 2, none⟩ t) k (some ⟨g, 0, none⟩) vals := by
  intro hne
  obtain ⟨ad, e, hb', hc⟩ := hs hne
  injection e with e
  subst e
  have h0 := hc 0 (List.length_pos_iff.mpr hne)
  rw [addr_add] at h0
  have hg : b ≠ g := by
    intro e
    rw [e] at hb
    rw [show 0 + 0 = 0 from rfl, hb] at h0
    injection h0 with h0
    exact hu _ h0
  refine ⟨_, rfl, hb', fun j hj => ?_⟩
  have hj' := hc j hj
  rw [addr_add] at hj' ⊢
  exact hop3 (by show b ≠ g; exact hg) hj'

theorem SLs.last {w2 w4 : World} {o : Obj} {g b : Nat} {vals : List ByteArray} {x y t : Value} {u1 : Option Addr} {u2 u3 : Nat} (hs : SLs w2 w2.heap.size (some ⟨g, 0, none⟩) vals) (hb : (w2.alloc o).cell? ⟨b, 0, none⟩ = some (.slice u1 u2 u3))
    (h4 : Below ((((w2.alloc o).setCell ⟨b, 0, none⟩ x).setCell ⟨b, 1, none⟩ y).setCell ⟨b, 2, none⟩ t).heap.size ((((w2.alloc o).setCell ⟨b, 0, none⟩ x).setCell ⟨b, 1, none⟩ y).setCell ⟨b, 2, none⟩ t) w4) : SLs w4 w4.heap.size (some ⟨g, 0, none⟩) vals := by
  have hs3 : SLs (w2.alloc o) (w2.alloc o).heap.size (some ⟨g, 0, none⟩) vals := hs.to ((Below.refl _ _).alloc (Nat.le_refl _) _)
  have hs4 := SLs.put (x := x) (y := y) (t := t) hs3 hb (fun s h => by cases h)
  have e : ((((w2.alloc o).setCell ⟨b, 0, none⟩ x).setCell ⟨b, 1, none⟩ y).setCell ⟨b, 2, none⟩ t).heap.size = (w2.alloc o).heap.size := by simp
  rw [← e] at hs4
  exact hs4.to h4
theorem step64 {i : Nat} (h : i < 65536) : Value.int .i64 (wrap64 ((i : Int) + 1)) = .int .i64 ((i + 1 : Nat) : Int) := by
  rw [IntWalk.wrap64_in _ (by omega)]
  rfl
theorem wrapi {i : Nat} (h : i < 65536) : wrap64 ((i : Int) + 1) = (i : Int) + 1 := IntWalk.wrap64_in _ (by omega)
theorem measT {T i : Nat} (hT : i < T) (h : i < 65536) : T - (intOf (.int .i64 (wrap64 ((i : Int) + 1)))).toNat < T - (intOf (.int .i64 (i : Int))).toNat := by
  rw [wrapi h]
  simp only [intOf]
  omega
theorem zi_next {z zi : Int} {i : Nat} (h : zi = z + (i : Int)) : z + ((i + 1 : Nat) : Int) = zi + 1 := by omega
theorem params_search (vals : List ByteArray) (A : Option Addr) (n c : Nat) (seed : ByteArray) (z : Int) (k gp : Nat) (f : Nat → Nat × Bool) (w : World) (hn : vals.length = n) (hm : n ≤ 1000) (h : SLs w w.heap.size A vals)
    (hk : k ≤ 59) (hs : seed.size ≤ 100000) (hT : Tab10 w) (hf : ∀ x : Nat, x < 2 ^ k → (f x).1 < 18446744073709551616)
    (hcl : ∀ (x : Nat) w', x < 2 ^ k → Below w.heap.size w w' → Calls Tryz.prog 115 #[.int .u64 x, .pointer (some ⟨gp, 0, none⟩)] w' fun e w'' => e = .returned (.tuple #[.int .u64 (f x).1, .bool (f x).2]) ∧ Below w'.heap.size w' w'') :
    Calls Tryz.prog 114 #[.int .i64 k, .agg #[.slice A n c, .string seed, .int .i64 z], .func (.func 115) #[] #[.pointer (some ⟨gp, 0, none⟩)]] w fun e w' => searchPost (searchS vals seed (2 ^ k) f 65536 z) n seed vals e w' ∧ Below w.heap.size w w' := by
  obtain ⟨M, hM⟩ : ∃ M, M = 2 ^ k := ⟨_, rfl⟩
  have hM64 : M < 18446744073709551616 := by rw [hM]; exact Nat.lt_of_le_of_lt (Nat.pow_le_pow_right (by decide) hk) (by decide)
  have q1 : IntKind.u64.wrap ((2 : Int) ^ k) = (M : Int) := by
    have : ((2 : Int) ^ k) = (M : Int) := by rw [hM]; exact (Int.natCast_pow 2 k).symm
    rw [this, IntKind.wrap_u64]
    omega
  have hk64 : k < 64 := by omega
  have hM0 : 1 ≤ M := by rw [hM]; exact Nat.pow_pos (by decide)
  have KO := Lib.hid (fun w => natural_Of M w hM64)
  rw [← hM] at hf hcl ⊢
  have HM := Lib.hid (And.intro hM0 hM64)
  have HF := Lib.hid hf
  have HCL := Lib.hid hcl
  have HS := Lib.hid h
  have HN := Lib.hid hn
  have HT := Lib.hid hT
  have HA0 := Lib.hid (AtS.start w A n c seed z)
  clear hM hM0 hM64 hf hcl h hn hT
  obtain ⟨T, hT2⟩ : ∃ T, T = 65536 := ⟨_, rfl⟩
  obtain ⟨D, hD⟩ : ∃ D, D = searchS vals seed M f 65536 z := ⟨_, rfl⟩
  rw [← hD]
  rw [← hT2] at hD
  have HTT := Lib.hid hT2
  have HD := Lib.hid hD
  clear hD hT2
  go_enter Tryz.func114, Tryz.ntmps114
  go_wp2_with (first | (go_at_call 27; (with_reducible refine (KO.out _).mono ?_); rintro e w1 ⟨rfl, hb1⟩
                        have HA1 := Lib.hid (HA0.out.next hb1)
                        clear hb1))
  go_loopw [20] (fun v wr => ∃ (i : Nat) (A' : Option Addr) (c' : Nat), v = .int .i64 i ∧ i ≤ 65536 ∧ AtS w wr A' n c' seed (z + i) ∧ SLs wr wr.heap.size A' vals ∧ searchS vals seed M f (T - i) (z + i) = D) (fun v _ => T - (intOf v).toNat)
  case atStart => exact ⟨0, A, c, rfl, by decide, by simpa using HA1.out, (HS.out.below HA1.out.a.bel).more HA1.out.a.bel.size, by rw [HD.out]; simp⟩
  case round =>
    clear HA1 HA0
    obtain ⟨i, A', c', rfl, hi, hat, hsl, hse⟩ := hrel
    have HA := Lib.hid hat
    have HSL := Lib.hid hsl
    have HSE := Lib.hid hse
    clear hat hsl hse
    by_cases hlt : i < 65536
    · obtain ⟨zi, hzi⟩ : ∃ zi, zi = z + (i : Int) := ⟨_, rfl⟩
      rw [← hzi] at HA HSE
      obtain ⟨d, hd⟩ : ∃ d, d = belowS vals seed zi M := ⟨_, rfl⟩
      have hKB := coins_Below vals A' n c' seed zi M wr HN.out hm HSL.out HM.out.1 HM.out.2 hs (HT.out.below HA.out.a.bel)
      rw [← hd] at hKB
      have t0 := HA.out.a.t0
      have t1 := HA.out.a.t1
      have t2 := HA.out.a.t2
      have p1 : decide ((i : Int) < 65536) = true := by rw [decide_eq_true_eq]; omega
      have HLT := Lib.hid hlt
      have HZI := Lib.hid hzi
      have HDD := Lib.hid hd
      by_cases h0 : d.1 = 0
      · have hx : d.2 < M := by rw [hd]; exact belowS_lt HM.out.1 (by rw [← hd]; exact h0)
        obtain ⟨x, hxd⟩ : ∃ x, x = d.2 := ⟨_, rfl⟩
        have KE := Lib.hid (hKB.mono (R' := fun e w' => (∃ g, e = .returned (.tuple #[.string (B x), .agg #[.slice (some ⟨g, 0, none⟩) n n, .string seed, .int .i64 (zi + 1)], .int .i64 0]) ∧ SLs w' w'.heap.size (some ⟨g, 0, none⟩) vals) ∧ Below wr.heap.size wr w') (by
          rintro e w' ⟨⟨_, hp⟩ | ⟨h, _⟩, hb⟩
          · rw [hxd]; exact ⟨hp, hb⟩
          · exact absurd h0 h))
        rw [← hxd] at hx
        have KC := Lib.hid (fun w' => HCL.out x w' hx)
        obtain ⟨P, hP⟩ : ∃ P, P = (f x).1 := ⟨_, rfl⟩
        have hP64 : P < 18446744073709551616 := by rw [hP]; exact HF.out x hx
        have KOP := Lib.hid (fun w => natural_Of P w hP64)
        have hx64 : x < 18446744073709551616 := Nat.lt_trans hx HM.out.2
        have KSM := Lib.hid (fun w => natural_Small' x w hx64)
        have HXD := Lib.hid hxd
        have HP0 := Lib.hid hP
        have hP0 := hP
        have H0 := Lib.hid h0
        have HLI := Lib.hid hi
        have HHS := Lib.hid (And.intro hs (And.intro hm hk))
        rw [← hP] at KC
        cases hok : (f x).2
        · rw [hok] at KC
          have HOK := Lib.hid hok
          have hse : searchS vals seed M f (T - (i + 1)) (z + (i + 1 : Nat)) = D := by
            rw [← HSE.out, show T - i = (T - (i + 1)) + 1 by have := HTT.out; omega]
            rw [searchS_on (by rw [← HDD.out]; exact h0) (by rw [← HDD.out, ← hxd]; exact hok)]
            rw [zi_next HZI.out]
          have HSE2 := Lib.hid hse
          clear hKB hlt hzi hd h0 hi hs hm hk hx hx64 hP hP64 hxd hok hse hP0
          go_step
          go_step
          have HP := Lib.hid p1
          clear p1
          go_step
          go_step
          go_step
          rw [HP.out]
          clear HP
          go_wp2_with (first
            | (go_at_call 82; (with_reducible refine KE.out.mono ?_); rintro e w2 ⟨⟨g, rfl, hsl⟩, hb2⟩
               have HA2 := Lib.hid (HA.out.next hb2)
               have HSL2 := Lib.hid hsl
               obtain ⟨t0, t1, t2, _, _⟩ := HA2.out.a
               have HA3 := Lib.hid (HA2.out.next ((Below.refl _ _).alloc (Nat.le_refl _) (.cells #[.slice (some ⟨g, 0, none⟩) n n, .string seed, .int .i64 (zi + 1)] 24)))
               obtain ⟨v0, v1, v2, _, _⟩ := HA3.out.a
               obtain ⟨_, f0, f1, f2⟩ := HA3.out
               obtain ⟨r0, r1, r2, g0, g1, g2⟩ := HA2.out.a.r0
               have e0 : ¬ w2.heap.size = w.heap.size := Nat.ne_of_gt (cell_in t0)
               have e1 : ¬ w.heap.size = w2.heap.size := Nat.ne_of_lt (cell_in t0)
               have e2 : ¬ w2.heap.size = w.heap.size + 1 := Nat.ne_of_gt (cell_in r0)
               have e3 : ¬ w.heap.size + 1 = w2.heap.size := Nat.ne_of_lt (cell_in r0)
               clear hb2 hsl)
            | (go_at_call 19; (with_reducible refine (KSM.out _).mono ?_); rintro e w3 ⟨rfl, rfl⟩)
            | (go_at_call 115; have HA4 := Lib.hid (HA3.out.put (A' := some ⟨g, 0, none⟩) (n' := n) (c' := n) (seed' := seed) (z' := zi + 1)); (with_reducible refine (KC.out _ HA4.out.a.bel).mono ?_); rintro e w4 ⟨rfl, hb4⟩
               have HB4 := Lib.hid hb4
               have HA5 := Lib.hid (HA4.out.next hb4)
               have HSL5 : Hid (SLs w4 w4.heap.size (some ⟨g, 0, none⟩) vals) := Lib.hid (SLs.last HSL2.out HA3.out.a.t0 hb4)
               clear hb4))
          go_roundw
          case rel => exact ⟨i + 1, some ⟨g, 0, none⟩, n, step64 HLT.out, HLT.out, by have := HA5.out; rwa [zi_next HZI.out], HSL5.out, HSE2.out⟩
          case measure => exact measT (by rw [HTT.out]; exact HLT.out) HLT.out
        · rw [hok] at KC
          have HOK := Lib.hid hok
          have hse : D = (0, P, zi + 1) := by
            rw [← HSE.out, show T - i = (T - (i + 1)) + 1 by have := HTT.out; have := HLT.out; omega]
            rw [searchS_hit (by rw [← HDD.out]; exact h0) (by rw [← HDD.out, ← hxd]; exact hok), ← HDD.out, ← hxd, ← hP0]
          have HSE2 := Lib.hid hse
          clear hKB hlt hzi hd h0 hi hs hm hk hx hx64 hP hP64 hxd hok hse hP0
          go_step
          go_step
          have HP := Lib.hid p1
          clear p1
          go_step
          go_step
          go_step
          rw [HP.out]
          clear HP
          go_wp2_with (first
            | (go_at_call 82; (with_reducible refine KE.out.mono ?_); rintro e w2 ⟨⟨g, rfl, hsl⟩, hb2⟩
               have HA2 := Lib.hid (HA.out.next hb2)
               have HSL2 := Lib.hid hsl
               obtain ⟨t0, t1, t2, _, _⟩ := HA2.out.a
               have HA3 := Lib.hid (HA2.out.next ((Below.refl _ _).alloc (Nat.le_refl _) (.cells #[.slice (some ⟨g, 0, none⟩) n n, .string seed, .int .i64 (zi + 1)] 24)))
               obtain ⟨v0, v1, v2, _, _⟩ := HA3.out.a
               obtain ⟨_, f0, f1, f2⟩ := HA3.out
               obtain ⟨r0, r1, r2, g0, g1, g2⟩ := HA2.out.a.r0
               have e0 : ¬ w2.heap.size = w.heap.size := Nat.ne_of_gt (cell_in t0)
               have e1 : ¬ w.heap.size = w2.heap.size := Nat.ne_of_lt (cell_in t0)
               have e2 : ¬ w2.heap.size = w.heap.size + 1 := Nat.ne_of_gt (cell_in r0)
               have e3 : ¬ w.heap.size + 1 = w2.heap.size := Nat.ne_of_lt (cell_in r0)
               clear hb2 hsl)
            | (go_at_call 19; (with_reducible refine (KSM.out _).mono ?_); rintro e w3 ⟨rfl, rfl⟩)
            | (go_at_call 115; have HA4 := Lib.hid (HA3.out.put (A' := some ⟨g, 0, none⟩) (n' := n) (c' := n) (seed' := seed) (z' := zi + 1)); (with_reducible refine (KC.out _ HA4.out.a.bel).mono ?_); rintro e w4 ⟨rfl, hb4⟩
               have HB4 := Lib.hid hb4
               have HA5 := Lib.hid (HA4.out.next hb4)
               have HSL5 : Hid (SLs w4 w4.heap.size (some ⟨g, 0, none⟩) vals) := Lib.hid (SLs.last HSL2.out HA3.out.a.t0 hb4)
               clear hb4))
          have HA5 := HA5
          obtain ⟨t0, t1, t2, _, _⟩ := HA5.out.a
          go_region_held3 (fun w' => w'.cell? ⟨w.heap.size, 0, none⟩ = some (.slice (some ⟨g, 0, none⟩) n n) ∧ w'.cell? ⟨w.heap.size, 1, none⟩ = some (.string seed) ∧ w'.cell? ⟨w.heap.size, 2, none⟩ = some (.int .i64 (zi + 1))) (first | go_keep)
            (first
              | (go_at_call 27; (with_reducible refine (KOP.out _).mono ?_); rintro e w6 ⟨rfl, hb6⟩
                 have HA6 : Hid (AtS w w6 (some ⟨g, 0, none⟩) n n seed (zi + 1)) := by first | exact Lib.hid (HA5.out.next hb6) | exact Lib.hid ((HA5.out.next (Below.refl _ _).drew).next hb6)
                 have HSL6 : Hid (SLs w6 w6.heap.size (some ⟨g, 0, none⟩) vals) := by first | exact Lib.hid (HSL5.out.to hb6) | exact Lib.hid ((HSL5.out.to (Below.refl _ _).drew).to hb6)
                 obtain ⟨t0, t1, t2, _, _⟩ := HA6.out.a
                 obtain ⟨r0, r1, r2, g0, g1, g2⟩ := HA6.out.a.r0))
          all_goals
            go_wp2_with fail
            refine bodyPost_ret (v := .tuple #[.string (B P), .agg #[.slice (some ⟨g, 0, none⟩) n n, .string seed, .int .i64 (zi + 1)], .int .i64 0]) (by simp [results, Tryz.results114, go_sem, r0, r1, r2]) rfl ⟨?_, HA6.out.a.bel3⟩
            rw [HSE2.out]
            exact .inl ⟨rfl, g, rfl, HA6.out.a.keepS HSL6.out⟩
      · have KE := Lib.hid (hKB.mono (R' := fun e w' => e = .returned (.tuple #[.string ⟨#[]⟩, .agg #[.slice none 0 0, .string ⟨#[]⟩, .int .i64 0], .int .i64 d.1]) ∧ Below wr.heap.size wr w') (by
          rintro e w' ⟨⟨h, _⟩ | ⟨_, hp⟩, hb⟩
          · exact absurd h h0
          · exact ⟨hp, hb⟩))
        have hDe : D = (d.1, 0, 0) := by
          rw [← HSE.out, hd, show T - i = (T - i - 1) + 1 by have := HTT.out; omega]
          exact searchS_err (by rw [← hd]; exact h0)
        have H0 := Lib.hid h0
        obtain ⟨er, her⟩ : ∃ er, er = d.1 := ⟨_, rfl⟩
        have hne : (er == 0) = false := by rw [her, beq_eq_false_iff_ne]; exact h0
        rw [← her] at KE hDe
        have HER := Lib.hid her
        have HDE := Lib.hid hDe
        have HHS := Lib.hid (And.intro hs (And.intro hm hk))
        clear hKB hlt hzi hd h0 hDe hi her hs hm hk
        go_step
        go_step
        have HP := Lib.hid p1
        clear p1
        go_step
        go_step
        go_step
        rw [HP.out]
        clear HP
        go_wp2_with (first | (go_at_call 82; (with_reducible refine KE.out.mono ?_); rintro e w2 ⟨rfl, hb2⟩
                              have HA2 := Lib.hid (HA.out.next hb2)
                              have HA3 := Lib.hid (HA2.out.next ((Below.refl _ _).alloc (Nat.le_refl _) (.cells #[.slice none 0 0, .string ⟨#[]⟩, .int .i64 0] 24)))
                              obtain ⟨r0, r1, r2, g0, g1, g2⟩ := HA3.out.a.r0
                              have e2 : ¬ w2.heap.size = w.heap.size + 1 := Nat.ne_of_gt (cell_in HA2.out.a.r0.1)
                              have e3 : ¬ w.heap.size + 1 = w2.heap.size := Nat.ne_of_lt (cell_in HA2.out.a.r0.1)
                              clear hb2))
        refine bodyPost_ret (v := .tuple #[.string ⟨#[]⟩, .agg #[.slice none 0 0, .string ⟨#[]⟩, .int .i64 0], .int .i64 er]) (by simp [results, Tryz.results114, go_sem, r0, r1, r2]) rfl ⟨?_, HA3.out.a.bel3⟩
        rw [HDE.out]
        exact .inr ⟨fun e => H0.out (HER.out.symm.trans e), rfl⟩
    · have p1 : decide ((i : Int) < 65536) = false := by rw [decide_eq_false_iff_not]; omega
      have hDe : D = (12, 0, 0) := by
        rw [← HSE.out, show T - i = 0 by have := HTT.out; omega]
        rfl
      have HDE := Lib.hid hDe
      obtain ⟨r0, r1, r2, g0, g1, g2⟩ := HA.out.a.r0
      clear hlt hDe hi
      go_step
      go_step
      have HP := Lib.hid p1
      clear p1
      go_step
      go_step
      go_step
      rw [HP.out]
      clear HP
      go_wp2_with fail
      refine bodyPost_ret (v := .tuple #[.string ⟨#[]⟩, .agg #[.slice none 0 0, .string ⟨#[]⟩, .int .i64 0], .int .i64 12]) (by simp [results, Tryz.results114, go_sem, r0, r1, r2]) rfl ⟨?_, HA.out.a.bel3⟩
      rw [HDE.out]
      exact .inr ⟨by decide, rfl⟩

end Go.Proofs.YtdajbcohmnmbpaaGreatDoor

namespace Go.Proofs.YtdajbcohmnmbpaaGreatDoor
open Go.RowKit
set_option maxRecDepth 100000
set_option linter.unusedVariables false
set_option maxHeartbeats 4000000

theorem params_searchQ (vals : List ByteArray) (A : Option Addr) (n c : Nat) (seed : ByteArray) (z : Int) (k gp : Nat) (f : Nat → Nat × Bool) (w : World) (hn : vals.length = n) (hm : n ≤ 1000) (h : SLs w w.heap.size A vals)
    (hk : k ≤ 59) (hs : seed.size ≤ 100000) (hT : Tab10 w) (hf : ∀ x : Nat, x < 2 ^ k → (f x).1 < 18446744073709551616)
    (hcl : ∀ (x : Nat) w', x < 2 ^ k → Below w.heap.size w w' → Calls Tryz.prog 122 #[.int .u64 x, .pointer (some ⟨gp, 0, none⟩)] w' fun e w'' => e = .returned (.tuple #[.int .u64 (f x).1, .bool (f x).2]) ∧ Below w'.heap.size w' w'') :
    Calls Tryz.prog 114 #[.int .i64 k, .agg #[.slice A n c, .string seed, .int .i64 z], .func (.func 122) #[] #[.pointer (some ⟨gp, 0, none⟩)]] w fun e w' => searchPost (searchS vals seed (2 ^ k) f 65536 z) n seed vals e w' ∧ Below w.heap.size w w' := by
  obtain ⟨M, hM⟩ : ∃ M, M = 2 ^ k := ⟨_, rfl⟩
  have hM64 : M < 18446744073709551616 := by rw [hM]; exact Nat.lt_of_le_of_lt (Nat.pow_le_pow_right (by decide) hk) (by decide)
  have q1 : IntKind.u64.wrap ((2 : Int) ^ k) = (M : Int) := by
    have : ((2 : Int) ^ k) = (M : Int) := by rw [hM]; exact (Int.natCast_pow 2 k).symm
    rw [this, IntKind.wrap_u64]
    omega
  have hk64 : k < 64 := by omega
  have hM0 : 1 ≤ M := by rw [hM]; exact Nat.pow_pos (by decide)
  have KO := Lib.hid (fun w => natural_Of M w hM64)
  rw [← hM] at hf hcl ⊢
  have HM := Lib.hid (And.intro hM0 hM64)
  have HF := Lib.hid hf
  have HCL := Lib.hid hcl
  have HS := Lib.hid h
  have HN := Lib.hid hn
  have HT := Lib.hid hT
  have HA0 := Lib.hid (AtS.start w A n c seed z)
  clear hM hM0 hM64 hf hcl h hn hT
  obtain ⟨T, hT2⟩ : ∃ T, T = 65536 := ⟨_, rfl⟩
  obtain ⟨D, hD⟩ : ∃ D, D = searchS vals seed M f 65536 z := ⟨_, rfl⟩
  rw [← hD]
  rw [← hT2] at hD
  have HTT := Lib.hid hT2
  have HD := Lib.hid hD
  clear hD hT2
  go_enter Tryz.func114, Tryz.ntmps114
  go_wp2_with (first | (go_at_call 27; (with_reducible refine (KO.out _).mono ?_); rintro e w1 ⟨rfl, hb1⟩
                        have HA1 := Lib.hid (HA0.out.next hb1)
                        clear hb1))
  go_loopw [20] (fun v wr => ∃ (i : Nat) (A' : Option Addr) (c' : Nat), v = .int .i64 i ∧ i ≤ 65536 ∧ AtS w wr A' n c' seed (z + i) ∧ SLs wr wr.heap.size A' vals ∧ searchS vals seed M f (T - i) (z + i) = D) (fun v _ => T - (intOf v).toNat)
  case atStart => exact ⟨0, A, c, rfl, by decide, by simpa using HA1.out, (HS.out.below HA1.out.a.bel).more HA1.out.a.bel.size, by rw [HD.out]; simp⟩
  case round =>
    clear HA1 HA0
    obtain ⟨i, A', c', rfl, hi, hat, hsl, hse⟩ := hrel
    have HA := Lib.hid hat
    have HSL := Lib.hid hsl
    have HSE := Lib.hid hse
    clear hat hsl hse
    by_cases hlt : i < 65536
    · obtain ⟨zi, hzi⟩ : ∃ zi, zi = z + (i : Int) := ⟨_, rfl⟩
      rw [← hzi] at HA HSE
      obtain ⟨d, hd⟩ : ∃ d, d = belowS vals seed zi M := ⟨_, rfl⟩
      have hKB := coins_Below vals A' n c' seed zi M wr HN.out hm HSL.out HM.out.1 HM.out.2 hs (HT.out.below HA.out.a.bel)
      rw [← hd] at hKB
      have t0 := HA.out.a.t0
      have t1 := HA.out.a.t1
      have t2 := HA.out.a.t2
      have p1 : decide ((i : Int) < 65536) = true := by rw [decide_eq_true_eq]; omega
      have HLT := Lib.hid hlt
      have HZI := Lib.hid hzi
      have HDD := Lib.hid hd
      by_cases h0 : d.1 = 0
      · have hx : d.2 < M := by rw [hd]; exact belowS_lt HM.out.1 (by rw [← hd]; exact h0)
        obtain ⟨x, hxd⟩ : ∃ x, x = d.2 := ⟨_, rfl⟩
        have KE := Lib.hid (hKB.mono (R' := fun e w' => (∃ g, e = .returned (.tuple #[.string (B x), .agg #[.slice (some ⟨g, 0, none⟩) n n, .string seed, .int .i64 (zi + 1)], .int .i64 0]) ∧ SLs w' w'.heap.size (some ⟨g, 0, none⟩) vals) ∧ Below wr.heap.size wr w') (by
          rintro e w' ⟨⟨_, hp⟩ | ⟨h, _⟩, hb⟩
          · rw [hxd]; exact ⟨hp, hb⟩
          · exact absurd h0 h))
        rw [← hxd] at hx
        have KC := Lib.hid (fun w' => HCL.out x w' hx)
        obtain ⟨P, hP⟩ : ∃ P, P = (f x).1 := ⟨_, rfl⟩
        have hP64 : P < 18446744073709551616 := by rw [hP]; exact HF.out x hx
        have KOP := Lib.hid (fun w => natural_Of P w hP64)
        have hx64 : x < 18446744073709551616 := Nat.lt_trans hx HM.out.2
        have KSM := Lib.hid (fun w => natural_Small' x w hx64)
        have HXD := Lib.hid hxd
        have HP0 := Lib.hid hP
        have hP0 := hP
        have H0 := Lib.hid h0
        have HLI := Lib.hid hi
        have HHS := Lib.hid (And.intro hs (And.intro hm hk))
        rw [← hP] at KC
        cases hok : (f x).2
        · rw [hok] at KC
          have HOK := Lib.hid hok
          have hse : searchS vals seed M f (T - (i + 1)) (z + (i + 1 : Nat)) = D := by
            rw [← HSE.out, show T - i = (T - (i + 1)) + 1 by have := HTT.out; omega]
            rw [searchS_on (by rw [← HDD.out]; exact h0) (by rw [← HDD.out, ← hxd]; exact hok)]
            rw [zi_next HZI.out]
          have HSE2 := Lib.hid hse
          clear hKB hlt hzi hd h0 hi hs hm hk hx hx64 hP hP64 hxd hok hse hP0
          go_step
          go_step
          have HP := Lib.hid p1
          clear p1
          go_step
          go_step
          go_step
          rw [HP.out]
          clear HP
          go_wp2_with (first
            | (go_at_call 82; (with_reducible refine KE.out.mono ?_); rintro e w2 ⟨⟨g, rfl, hsl⟩, hb2⟩
               have HA2 := Lib.hid (HA.out.next hb2)
               have HSL2 := Lib.hid hsl
               obtain ⟨t0, t1, t2, _, _⟩ := HA2.out.a
               have HA3 := Lib.hid (HA2.out.next ((Below.refl _ _).alloc (Nat.le_refl _) (.cells #[.slice (some ⟨g, 0, none⟩) n n, .string seed, .int .i64 (zi + 1)] 24)))
               obtain ⟨v0, v1, v2, _, _⟩ := HA3.out.a
               obtain ⟨_, f0, f1, f2⟩ := HA3.out
               obtain ⟨r0, r1, r2, g0, g1, g2⟩ := HA2.out.a.r0
               have e0 : ¬ w2.heap.size = w.heap.size := Nat.ne_of_gt (cell_in t0)
               have e1 : ¬ w.heap.size = w2.heap.size := Nat.ne_of_lt (cell_in t0)
               have e2 : ¬ w2.heap.size = w.heap.size + 1 := Nat.ne_of_gt (cell_in r0)
               have e3 : ¬ w.heap.size + 1 = w2.heap.size := Nat.ne_of_lt (cell_in r0)
               clear hb2 hsl)
            | (go_at_call 19; (with_reducible refine (KSM.out _).mono ?_); rintro e w3 ⟨rfl, rfl⟩)
            | (go_at_call 122; have HA4 := Lib.hid (HA3.out.put (A' := some ⟨g, 0, none⟩) (n' := n) (c' := n) (seed' := seed) (z' := zi + 1)); (with_reducible refine (KC.out _ HA4.out.a.bel).mono ?_); rintro e w4 ⟨rfl, hb4⟩
               have HB4 := Lib.hid hb4
               have HA5 := Lib.hid (HA4.out.next hb4)
               have HSL5 : Hid (SLs w4 w4.heap.size (some ⟨g, 0, none⟩) vals) := Lib.hid (SLs.last HSL2.out HA3.out.a.t0 hb4)
               clear hb4))
          go_roundw
          case rel => exact ⟨i + 1, some ⟨g, 0, none⟩, n, step64 HLT.out, HLT.out, by have := HA5.out; rwa [zi_next HZI.out], HSL5.out, HSE2.out⟩
          case measure => exact measT (by rw [HTT.out]; exact HLT.out) HLT.out
        · rw [hok] at KC
          have HOK := Lib.hid hok
          have hse : D = (0, P, zi + 1) := by
            rw [← HSE.out, show T - i = (T - (i + 1)) + 1 by have := HTT.out; have := HLT.out; omega]
            rw [searchS_hit (by rw [← HDD.out]; exact h0) (by rw [← HDD.out, ← hxd]; exact hok), ← HDD.out, ← hxd, ← hP0]
          have HSE2 := Lib.hid hse
          clear hKB hlt hzi hd h0 hi hs hm hk hx hx64 hP hP64 hxd hok hse hP0
          go_step
          go_step
          have HP := Lib.hid p1
          clear p1
          go_step
          go_step
          go_step
          rw [HP.out]
          clear HP
          go_wp2_with (first
            | (go_at_call 82; (with_reducible refine KE.out.mono ?_); rintro e w2 ⟨⟨g, rfl, hsl⟩, hb2⟩
               have HA2 := Lib.hid (HA.out.next hb2)
               have HSL2 := Lib.hid hsl
               obtain ⟨t0, t1, t2, _, _⟩ := HA2.out.a
               have HA3 := Lib.hid (HA2.out.next ((Below.refl _ _).alloc (Nat.le_refl _) (.cells #[.slice (some ⟨g, 0, none⟩) n n, .string seed, .int .i64 (zi + 1)] 24)))
               obtain ⟨v0, v1, v2, _, _⟩ := HA3.out.a
               obtain ⟨_, f0, f1, f2⟩ := HA3.out
               obtain ⟨r0, r1, r2, g0, g1, g2⟩ := HA2.out.a.r0
               have e0 : ¬ w2.heap.size = w.heap.size := Nat.ne_of_gt (cell_in t0)
               have e1 : ¬ w.heap.size = w2.heap.size := Nat.ne_of_lt (cell_in t0)
               have e2 : ¬ w2.heap.size = w.heap.size + 1 := Nat.ne_of_gt (cell_in r0)
               have e3 : ¬ w.heap.size + 1 = w2.heap.size := Nat.ne_of_lt (cell_in r0)
               clear hb2 hsl)
            | (go_at_call 19; (with_reducible refine (KSM.out _).mono ?_); rintro e w3 ⟨rfl, rfl⟩)
            | (go_at_call 122; have HA4 := Lib.hid (HA3.out.put (A' := some ⟨g, 0, none⟩) (n' := n) (c' := n) (seed' := seed) (z' := zi + 1)); (with_reducible refine (KC.out _ HA4.out.a.bel).mono ?_); rintro e w4 ⟨rfl, hb4⟩
               have HB4 := Lib.hid hb4
               have HA5 := Lib.hid (HA4.out.next hb4)
               have HSL5 : Hid (SLs w4 w4.heap.size (some ⟨g, 0, none⟩) vals) := Lib.hid (SLs.last HSL2.out HA3.out.a.t0 hb4)
               clear hb4))
          have HA5 := HA5
          obtain ⟨t0, t1, t2, _, _⟩ := HA5.out.a
          go_region_held3 (fun w' => w'.cell? ⟨w.heap.size, 0, none⟩ = some (.slice (some ⟨g, 0, none⟩) n n) ∧ w'.cell? ⟨w.heap.size, 1, none⟩ = some (.string seed) ∧ w'.cell? ⟨w.heap.size, 2, none⟩ = some (.int .i64 (zi + 1))) (first | go_keep)
            (first
              | (go_at_call 27; (with_reducible refine (KOP.out _).mono ?_); rintro e w6 ⟨rfl, hb6⟩
                 have HA6 : Hid (AtS w w6 (some ⟨g, 0, none⟩) n n seed (zi + 1)) := by first | exact Lib.hid (HA5.out.next hb6) | exact Lib.hid ((HA5.out.next (Below.refl _ _).drew).next hb6)
                 have HSL6 : Hid (SLs w6 w6.heap.size (some ⟨g, 0, none⟩) vals) := by first | exact Lib.hid (HSL5.out.to hb6) | exact Lib.hid ((HSL5.out.to (Below.refl _ _).drew).to hb6)
                 obtain ⟨t0, t1, t2, _, _⟩ := HA6.out.a
                 obtain ⟨r0, r1, r2, g0, g1, g2⟩ := HA6.out.a.r0))
          all_goals
            go_wp2_with fail
            refine bodyPost_ret (v := .tuple #[.string (B P), .agg #[.slice (some ⟨g, 0, none⟩) n n, .string seed, .int .i64 (zi + 1)], .int .i64 0]) (by simp [results, Tryz.results114, go_sem, r0, r1, r2]) rfl ⟨?_, HA6.out.a.bel3⟩
            rw [HSE2.out]
            exact .inl ⟨rfl, g, rfl, HA6.out.a.keepS HSL6.out⟩
      · have KE := Lib.hid (hKB.mono (R' := fun e w' => e = .returned (.tuple #[.string ⟨#[]⟩, .agg #[.slice none 0 0, .string ⟨#[]⟩, .int .i64 0], .int .i64 d.1]) ∧ Below wr.heap.size wr w') (by
          rintro e w' ⟨⟨h, _⟩ | ⟨_, hp⟩, hb⟩
          · exact absurd h h0
          · exact ⟨hp, hb⟩))
        have hDe : D = (d.1, 0, 0) := by
          rw [← HSE.out, hd, show T - i = (T - i - 1) + 1 by have := HTT.out; omega]
          exact searchS_err (by rw [← hd]; exact h0)
        have H0 := Lib.hid h0
        obtain ⟨er, her⟩ : ∃ er, er = d.1 := ⟨_, rfl⟩
        have hne : (er == 0) = false := by rw [her, beq_eq_false_iff_ne]; exact h0
        rw [← her] at KE hDe
        have HER := Lib.hid her
        have HDE := Lib.hid hDe
        have HHS := Lib.hid (And.intro hs (And.intro hm hk))
        clear hKB hlt hzi hd h0 hDe hi her hs hm hk
        go_step
        go_step
        have HP := Lib.hid p1
        clear p1
        go_step
        go_step
        go_step
        rw [HP.out]
        clear HP
        go_wp2_with (first | (go_at_call 82; (with_reducible refine KE.out.mono ?_); rintro e w2 ⟨rfl, hb2⟩
                              have HA2 := Lib.hid (HA.out.next hb2)
                              have HA3 := Lib.hid (HA2.out.next ((Below.refl _ _).alloc (Nat.le_refl _) (.cells #[.slice none 0 0, .string ⟨#[]⟩, .int .i64 0] 24)))
                              obtain ⟨r0, r1, r2, g0, g1, g2⟩ := HA3.out.a.r0
                              have e2 : ¬ w2.heap.size = w.heap.size + 1 := Nat.ne_of_gt (cell_in HA2.out.a.r0.1)
                              have e3 : ¬ w.heap.size + 1 = w2.heap.size := Nat.ne_of_lt (cell_in HA2.out.a.r0.1)
                              clear hb2))
        refine bodyPost_ret (v := .tuple #[.string ⟨#[]⟩, .agg #[.slice none 0 0, .string ⟨#[]⟩, .int .i64 0], .int .i64 er]) (by simp [results, Tryz.results114, go_sem, r0, r1, r2]) rfl ⟨?_, HA3.out.a.bel3⟩
        rw [HDE.out]
        exact .inr ⟨fun e => H0.out (HER.out.symm.trans e), rfl⟩
    · have p1 : decide ((i : Int) < 65536) = false := by rw [decide_eq_false_iff_not]; omega
      have hDe : D = (12, 0, 0) := by
        rw [← HSE.out, show T - i = 0 by have := HTT.out; omega]
        rfl
      have HDE := Lib.hid hDe
      obtain ⟨r0, r1, r2, g0, g1, g2⟩ := HA.out.a.r0
      clear hlt hDe hi
      go_step
      go_step
      have HP := Lib.hid p1
      clear p1
      go_step
      go_step
      go_step
      rw [HP.out]
      clear HP
      go_wp2_with fail
      refine bodyPost_ret (v := .tuple #[.string ⟨#[]⟩, .agg #[.slice none 0 0, .string ⟨#[]⟩, .int .i64 0], .int .i64 12]) (by simp [results, Tryz.results114, go_sem, r0, r1, r2]) rfl ⟨?_, HA.out.a.bel3⟩
      rw [HDE.out]
      exact .inr ⟨by decide, rfl⟩

end Go.Proofs.YtdajbcohmnmbpaaGreatDoor

namespace Go.Proofs.YtdajbcohmnmbpaaGreatDoor
open Go.RowKit
set_option maxRecDepth 100000
set_option linter.unusedVariables false
set_option maxHeartbeats 4000000

/-- What a search hands back, in one form for both ends. -/
def Tail (d : Int × Nat × Int) (n : Nat) (seed : ByteArray) (vals : List ByteArray) (s : ByteArray) (A : Option Addr) (n' c' : Nat) (sd : ByteArray) (zz : Int) (w' : World) : Prop :=
  (d.1 = 0 ∧ s = B d.2.1 ∧ n' = n ∧ c' = n ∧ sd = seed ∧ zz = d.2.2 ∧ (∃ g, A = some ⟨g, 0, none⟩) ∧ SLs w' w'.heap.size A vals) ∨ (d.1 ≠ 0 ∧ s = ⟨#[]⟩ ∧ A = none ∧ n' = 0 ∧ c' = 0 ∧ sd = ⟨#[]⟩ ∧ zz = 0)
theorem searchPost.tail {d : Int × Nat × Int} {n : Nat} {seed : ByteArray} {vals : List ByteArray} {e : Ending} {w' : World} (h : searchPost d n seed vals e w') :
    ∃ s A n' c' sd zz, e = .returned (.tuple #[.string s, .agg #[.slice A n' c', .string sd, .int .i64 zz], .int .i64 d.1]) ∧ Tail d n seed vals s A n' c' sd zz w' := by
  rcases h with ⟨h0, g, rfl, hs⟩ | ⟨h0, rfl⟩
  · exact ⟨_, _, _, _, _, _, by rw [h0], .inl ⟨h0, rfl, rfl, rfl, rfl, rfl, ⟨g, rfl⟩, hs⟩⟩
  · exact ⟨_, _, _, _, _, _, rfl, .inr ⟨h0, rfl, rfl, rfl, rfl, rfl, rfl⟩⟩
theorem Tail.post {d : Int × Nat × Int} {n n' c' : Nat} {seed s sd : ByteArray} {A : Option Addr} {zz : Int} {vals : List ByteArray} {w' : World} (h : Tail d n seed vals s A n' c' sd zz w') :
    searchPost d n seed vals (.returned (.tuple #[.string s, .agg #[.slice A n' c', .string sd, .int .i64 zz], .int .i64 d.1])) w' := by
  rcases h with ⟨h0, rfl, rfl, rfl, rfl, rfl, ⟨g, rfl⟩, hs⟩ | ⟨h0, rfl, rfl, rfl, rfl, rfl, rfl⟩
  · exact .inl ⟨h0, g, by rw [h0], hs⟩
  · exact .inr ⟨h0, rfl⟩
theorem Tail.put {d : Int × Nat × Int} {n n' c' b : Nat} {seed s sd : ByteArray} {A : Option Addr} {zz : Int} {vals : List ByteArray} {w' : World} {x y t : Value} {u1 : Option Addr} {u2 u3 : Nat} (h : Tail d n seed vals s A n' c' sd zz w')
    (hb : w'.cell? ⟨b, 0, none⟩ = some (.slice u1 u2 u3)) : Tail d n seed vals s A n' c' sd zz (((w'.setCell ⟨b, 0, none⟩ x).setCell ⟨b, 1, none⟩ y).setCell ⟨b, 2, none⟩ t) := by
  rcases h with ⟨h0, rfl, rfl, rfl, rfl, rfl, ⟨g, rfl⟩, hs⟩ | h
  · have hs4 := SLs.put (x := x) (y := y) (t := t) hs hb (fun s h => by cases h)
    have e : (((w'.setCell ⟨b, 0, none⟩ x).setCell ⟨b, 1, none⟩ y).setCell ⟨b, 2, none⟩ t).heap.size = w'.heap.size := by simp
    rw [← e] at hs4
    exact .inl ⟨h0, rfl, rfl, rfl, rfl, rfl, ⟨g, rfl⟩, hs4⟩
  · exact .inr h
/-- The boxes of Prime: the number of bits, the tape, the result. -/
structure BoxP (w wx : World) (bits : Int) (A : Option Addr) (n c : Nat) (seed : ByteArray) (z : Int) : Prop where
  p0 : wx.cell? ⟨w.heap.size, 0, none⟩ = some (.int .i64 bits)
  t0 : wx.cell? ⟨w.heap.size + 1, 0, none⟩ = some (.slice A n c)
  t1 : wx.cell? ⟨w.heap.size + 1, 1, none⟩ = some (.string seed)
  t2 : wx.cell? ⟨w.heap.size + 1, 2, none⟩ = some (.int .i64 z)
  r : wx.heap[w.heap.size + 1 + 1]? = some (.cells #[.slice none 0 0, .string ⟨#[]⟩, .int .i64 0] 24 (0, 0))
  bel : Below w.heap.size w wx
section
variable {w wx wy : World} {bits : Int} {A : Option Addr} {n c : Nat} {seed : ByteArray} {z : Int} {x y t : Value}
theorem BoxP.start (w : World) (bits : Int) (A : Option Addr) (n c : Nat) (seed : ByteArray) (z : Int) : BoxP w (((w.alloc (.cells #[.int .i64 bits] 3)).alloc (.cells #[.slice A n c, .string seed, .int .i64 z] 24)).alloc (.cells #[.slice none 0 0, .string ⟨#[]⟩, .int .i64 0] 24)) bits A n c seed z :=
  ⟨by simp [go_sem], by simp [go_sem], by simp [go_sem], by simp [go_sem], by
    have := heap_alloc_new ((w.alloc (.cells #[.int .i64 bits] 3)).alloc (.cells #[.slice A n c, .string seed, .int .i64 z] 24)) (.cells #[.slice none 0 0, .string ⟨#[]⟩, .int .i64 0] 24)
    rwa [World.size_alloc, World.size_alloc] at this, (below_res w _ _).alloc (by simp; omega) _⟩
theorem BoxP.next (h : BoxP w wx bits A n c seed z) (hb : Below wx.heap.size wx wy) : BoxP w wy bits A n c seed z := by
  have lr : w.heap.size + 1 + 1 < wx.heap.size := (Array.getElem?_eq_some_iff.1 h.r).1
  exact ⟨(hb.cell (p := ⟨w.heap.size, 0, none⟩) (by show w.heap.size < _; omega)).trans h.p0, (hb.cell (p := ⟨w.heap.size + 1, 0, none⟩) (by show w.heap.size + 1 < _; omega)).trans h.t0, (hb.cell (p := ⟨w.heap.size + 1, 1, none⟩) (by show w.heap.size + 1 < _; omega)).trans h.t1, (hb.cell (p := ⟨w.heap.size + 1, 2, none⟩) (by show w.heap.size + 1 < _; omega)).trans h.t2,
    (hb.block _ lr).trans h.r, h.bel.trans (hb.mono (by omega))⟩
theorem BoxP.r0 (h : BoxP w wx bits A n c seed z) : wx.cell? ⟨w.heap.size + 1 + 1, 0, none⟩ = some (.slice none 0 0) ∧ wx.cell? ⟨w.heap.size + 1 + 1, 1, none⟩ = some (.string ⟨#[]⟩) ∧ wx.cell? ⟨w.heap.size + 1 + 1, 2, none⟩ = some (.int .i64 0) ∧
    wx.frozen? ⟨w.heap.size + 1 + 1, 0, none⟩ = false ∧ wx.frozen? ⟨w.heap.size + 1 + 1, 1, none⟩ = false ∧ wx.frozen? ⟨w.heap.size + 1 + 1, 2, none⟩ = false := by
  refine ⟨?_, ?_, ?_, ?_, ?_, ?_⟩ <;> simp [World.cell?, World.frozen?, h.r]
theorem BoxP.bel3 (h : BoxP w wx bits A n c seed z) : Below w.heap.size w (((wx.setCell ⟨w.heap.size + 1 + 1, 0, none⟩ x).setCell ⟨w.heap.size + 1 + 1, 1, none⟩ y).setCell ⟨w.heap.size + 1 + 1, 2, none⟩ t) := by
  have le : w.heap.size ≤ w.heap.size + 1 + 1 := Nat.le_add_right _ 2
  exact ((h.bel.setCell (p := ⟨w.heap.size + 1 + 1, 0, none⟩) le x).setCell (p := ⟨w.heap.size + 1 + 1, 1, none⟩) le y).setCell (p := ⟨w.heap.size + 1 + 1, 2, none⟩) le t
end
theorem params_Prime (bits : Int) (vals : List ByteArray) (A : Option Addr) (n c : Nat) (seed : ByteArray) (z : Int) (w : World) (hn : vals.length = n) (hm : n ≤ 1000) (h : SLs w w.heap.size A vals) (hs : seed.size ≤ 100000) (hT : Tab w) (hT10 : Tab10 w) :
    Calls Tryz.prog 45 #[.int .i64 bits, .agg #[.slice A n c, .string seed, .int .i64 z]] w fun e w' => searchPost (primeD bits vals seed z) n seed vals e w' ∧ Below w.heap.size w w' := by
  have KF := Lib.hid (fun wq (h1 : Below w.heap.size w wq) => params_formed vals A n c seed z wq hn hm ((h.below h1).more h1.size) hs (hT10.below h1))
  have HA0 := Lib.hid (BoxP.start w bits A n c seed z)
  cases hg : goodT vals z
  · have hd : primeD bits vals seed z = (3, 0, 0) := by unfold primeD; rw [hg, if_neg (by decide)]
    rw [hg] at KF
    rw [hd]
    clear hn h hT hT10 hg hd
    go_enter Tryz.func45, Tryz.ntmps45
    go_wp2_with (first | (go_at_call 48; (with_reducible refine (KF.out _ HA0.out.bel).mono ?_); rintro e w1 ⟨rfl, hb1⟩
                          have HA1 := Lib.hid (HA0.out.next hb1)
                          obtain ⟨r0, r1, r2, g0, g1, g2⟩ := HA1.out.r0
                          clear hb1))
    refine bodyPost_ret (v := .tuple #[.string ⟨#[]⟩, .agg #[.slice none 0 0, .string ⟨#[]⟩, .int .i64 0], .int .i64 3]) (by simp [results, Tryz.results45, go_sem, r0, r1, r2]) rfl ⟨.inr ⟨by decide, rfl⟩, HA1.out.bel3⟩
  · rw [hg] at KF
    by_cases hb : 2 ≤ bits ∧ bits ≤ 60
    · have hd : primeD bits vals seed z = searchS vals seed (2 ^ (bits.toNat - 1)) (tryP bits.toNat) 65536 z := by unfold primeD; rw [if_pos hg, if_pos hb]
      obtain ⟨b, hbn⟩ : ∃ b : Nat, bits = (b : Int) := ⟨bits.toNat, by omega⟩
      subst hbn
      have e : ((b : Nat) : Int).toNat = b := by omega
      rw [e] at hd
      obtain ⟨k, hk⟩ : ∃ k, k = b - 1 := ⟨_, rfl⟩
      rw [← hk] at hd
      have q1 : (b : Int) - 1 = (k : Int) := by omega
      have q2 : wrap64 (k : Int) = (k : Int) := IntWalk.wrap64_in _ (by omega)
      have p1 : decide ((b : Int) < 2) = false := by rw [decide_eq_false_iff_not]; omega
      have p2 : decide ((60 : Int) < (b : Int)) = false := by rw [decide_eq_false_iff_not]; omega
      have hp59 : 2 ^ k ≤ 2 ^ 59 := Nat.pow_le_pow_right (by decide) (by omega)
      have hf : ∀ x : Nat, x < 2 ^ k → (tryP b x).1 < 18446744073709551616 := by
        intro x hx
        unfold tryP
        rw [← hk]
        have : (2 : Nat) ^ 59 = 576460752303423488 := by decide
        rw [this] at hp59
        omega
      have KS := Lib.hid (fun wq (h1 : BoxP w wq (b : Int) A n c seed z) => params_search vals A n c seed z k w.heap.size (tryP b) wq hn hm ((h.below h1.bel).more h1.bel.size) (by omega) hs (hT10.below h1.bel) hf
        (fun x w' hx hbw => params_Prime1 w.heap.size b x w' ((hbw.cell (p := ⟨w.heap.size, 0, none⟩) (cell_in (a := ⟨w.heap.size, 0, none⟩) h1.p0)).trans h1.p0) (by omega) (by omega) (by rw [← hk]; exact hx) ((hT.below h1.bel).below hbw)))
      obtain ⟨d, hdd⟩ : ∃ d, d = searchS vals seed (2 ^ k) (tryP b) 65536 z := ⟨_, rfl⟩
      rw [← hdd] at KS hd
      rw [hd]
      clear hn h hT hT10 hg hd hdd hb hf hp59 hk e hs hm
      go_enter Tryz.func45, Tryz.ntmps45
      go_wp2_with (first
        | (go_at_call 48; (with_reducible refine (KF.out _ HA0.out.bel).mono ?_); rintro e w1 ⟨rfl, hb1⟩
           have HA1 := Lib.hid (HA0.out.next hb1)
           obtain ⟨p0, t0, t1, t2, _, _⟩ := HA1.out
           clear hb1)
        | (go_at_call 114; (with_reducible refine (KS.out _ HA1.out).mono ?_); rintro e w2 ⟨hp, hb2⟩
           have HA2 := Lib.hid (HA1.out.next hb2)
           obtain ⟨r0, r1, r2, g0, g1, g2⟩ := HA2.out.r0
           obtain ⟨s, A', n', c', sd, zz, rfl, htl⟩ := hp.tail
           have HTL := Lib.hid htl
           clear hb2 hp htl))
      refine bodyPost_ret (v := .tuple #[.string s, .agg #[.slice A' n' c', .string sd, .int .i64 zz], .int .i64 d.1]) (by simp [results, Tryz.results45, go_sem, r0, r1, r2]) rfl ⟨?_, HA2.out.bel3⟩
      exact (HTL.out.put r0).post
    · have hd : primeD bits vals seed z = (2, 0, 0) := by unfold primeD; rw [if_pos hg, if_neg hb]
      rw [hd]
      have KF := KF
      by_cases hlo : bits < 2
      · have p1 : decide (bits < 2) = true := decide_eq_true hlo
        clear hn h hT hT10 hg hd hb hlo
        go_enter Tryz.func45, Tryz.ntmps45
        go_wp2_with (first | (go_at_call 48; (with_reducible refine (KF.out _ HA0.out.bel).mono ?_); rintro e w1 ⟨rfl, hb1⟩
                              have HA1 := Lib.hid (HA0.out.next hb1)
                              obtain ⟨p0, t0, t1, t2, _, _⟩ := HA1.out
                              obtain ⟨r0, r1, r2, g0, g1, g2⟩ := HA1.out.r0
                              clear hb1))
        refine bodyPost_ret (v := .tuple #[.string ⟨#[]⟩, .agg #[.slice none 0 0, .string ⟨#[]⟩, .int .i64 0], .int .i64 2]) (by simp [results, Tryz.results45, go_sem, r0, r1, r2]) rfl ⟨.inr ⟨by decide, rfl⟩, HA1.out.bel3⟩
      · have p1 : decide (bits < 2) = false := decide_eq_false hlo
        have p2 : decide ((60 : Int) < bits) = true := by rw [decide_eq_true_eq]; omega
        clear hn h hT hT10 hg hd hb hlo
        go_enter Tryz.func45, Tryz.ntmps45
        go_wp2_with (first | (go_at_call 48; (with_reducible refine (KF.out _ HA0.out.bel).mono ?_); rintro e w1 ⟨rfl, hb1⟩
                              have HA1 := Lib.hid (HA0.out.next hb1)
                              obtain ⟨p0, t0, t1, t2, _, _⟩ := HA1.out
                              obtain ⟨r0, r1, r2, g0, g1, g2⟩ := HA1.out.r0
                              clear hb1))
        refine bodyPost_ret (v := .tuple #[.string ⟨#[]⟩, .agg #[.slice none 0 0, .string ⟨#[]⟩, .int .i64 0], .int .i64 2]) (by simp [results, Tryz.results45, go_sem, r0, r1, r2]) rfl ⟨.inr ⟨by decide, rfl⟩, HA1.out.bel3⟩

end Go.Proofs.YtdajbcohmnmbpaaGreatDoor

namespace Go.Proofs.YtdajbcohmnmbpaaGreatDoor
open Go.RowKit
set_option maxRecDepth 100000
set_option linter.unusedVariables false
set_option maxHeartbeats 4000000

theorem params_SafePrime (bits : Int) (vals : List ByteArray) (A : Option Addr) (n c : Nat) (seed : ByteArray) (z : Int) (w : World) (hn : vals.length = n) (hm : n ≤ 1000) (h : SLs w w.heap.size A vals) (hs : seed.size ≤ 100000) (hT : Tab w) (hT10 : Tab10 w) :
    Calls Tryz.prog 55 #[.int .i64 bits, .agg #[.slice A n c, .string seed, .int .i64 z]] w fun e w' => searchPost (safeD bits vals seed z) n seed vals e w' ∧ Below w.heap.size w w' := by
  have KF := Lib.hid (fun wq (h1 : Below w.heap.size w wq) => params_formed vals A n c seed z wq hn hm ((h.below h1).more h1.size) hs (hT10.below h1))
  have HA0 := Lib.hid (BoxP.start w bits A n c seed z)
  cases hg : goodT vals z
  · have hd : safeD bits vals seed z = (3, 0, 0) := by unfold safeD; rw [hg, if_neg (by decide)]
    rw [hg] at KF
    rw [hd]
    clear hn h hT hT10 hg hd
    go_enter Tryz.func55, Tryz.ntmps55
    go_wp2_with (first | (go_at_call 48; (with_reducible refine (KF.out _ HA0.out.bel).mono ?_); rintro e w1 ⟨rfl, hb1⟩
                          have HA1 := Lib.hid (HA0.out.next hb1)
                          obtain ⟨r0, r1, r2, g0, g1, g2⟩ := HA1.out.r0
                          clear hb1))
    refine bodyPost_ret (v := .tuple #[.string ⟨#[]⟩, .agg #[.slice none 0 0, .string ⟨#[]⟩, .int .i64 0], .int .i64 3]) (by simp [results, Tryz.results55, go_sem, r0, r1, r2]) rfl ⟨.inr ⟨by decide, rfl⟩, HA1.out.bel3⟩
  · rw [hg] at KF
    by_cases hb : 3 ≤ bits ∧ bits ≤ 60
    · have hd : safeD bits vals seed z = searchS vals seed (2 ^ (bits.toNat - 2)) (tryQ bits.toNat) 65536 z := by unfold safeD; rw [if_pos hg, if_pos hb]
      obtain ⟨b, hbn⟩ : ∃ b : Nat, bits = (b : Int) := ⟨bits.toNat, by omega⟩
      subst hbn
      have e : ((b : Nat) : Int).toNat = b := by omega
      rw [e] at hd
      obtain ⟨k, hk⟩ : ∃ k, k = b - 2 := ⟨_, rfl⟩
      rw [← hk] at hd
      have q1 : (b : Int) - 2 = (k : Int) := by omega
      have q2 : wrap64 (k : Int) = (k : Int) := IntWalk.wrap64_in _ (by omega)
      have p1 : decide ((b : Int) < 3) = false := by rw [decide_eq_false_iff_not]; omega
      have p2 : decide ((60 : Int) < (b : Int)) = false := by rw [decide_eq_false_iff_not]; omega
      have hp59 : 2 ^ k ≤ 2 ^ 59 := Nat.pow_le_pow_right (by decide) (by omega)
      have hf : ∀ x : Nat, x < 2 ^ k → (tryQ b x).1 < 18446744073709551616 := by
        intro x hx
        unfold tryQ
        rw [← hk]
        have : (2 : Nat) ^ 59 = 576460752303423488 := by decide
        rw [this] at hp59
        omega
      have KS := Lib.hid (fun wq (h1 : BoxP w wq (b : Int) A n c seed z) => params_searchQ vals A n c seed z k w.heap.size (tryQ b) wq hn hm ((h.below h1.bel).more h1.bel.size) (by omega) hs (hT10.below h1.bel) hf
        (fun x w' hx hbw => params_SafePrime1 w.heap.size b x w' ((hbw.cell (p := ⟨w.heap.size, 0, none⟩) (cell_in (a := ⟨w.heap.size, 0, none⟩) h1.p0)).trans h1.p0) (by omega) (by omega) (by rw [← hk]; exact hx) ((hT.below h1.bel).below hbw)))
      obtain ⟨d, hdd⟩ : ∃ d, d = searchS vals seed (2 ^ k) (tryQ b) 65536 z := ⟨_, rfl⟩
      rw [← hdd] at KS hd
      rw [hd]
      clear hn h hT hT10 hg hd hdd hb hf hp59 hk e hs hm
      go_enter Tryz.func55, Tryz.ntmps55
      go_wp2_with (first
        | (go_at_call 48; (with_reducible refine (KF.out _ HA0.out.bel).mono ?_); rintro e w1 ⟨rfl, hb1⟩
           have HA1 := Lib.hid (HA0.out.next hb1)
           obtain ⟨p0, t0, t1, t2, _, _⟩ := HA1.out
           clear hb1)
        | (go_at_call 114; (with_reducible refine (KS.out _ HA1.out).mono ?_); rintro e w2 ⟨hp, hb2⟩
           have HA2 := Lib.hid (HA1.out.next hb2)
           obtain ⟨r0, r1, r2, g0, g1, g2⟩ := HA2.out.r0
           obtain ⟨s, A', n', c', sd, zz, rfl, htl⟩ := hp.tail
           have HTL := Lib.hid htl
           clear hb2 hp htl))
      refine bodyPost_ret (v := .tuple #[.string s, .agg #[.slice A' n' c', .string sd, .int .i64 zz], .int .i64 d.1]) (by simp [results, Tryz.results55, go_sem, r0, r1, r2]) rfl ⟨?_, HA2.out.bel3⟩
      exact (HTL.out.put r0).post
    · have hd : safeD bits vals seed z = (2, 0, 0) := by unfold safeD; rw [if_pos hg, if_neg hb]
      rw [hd]
      have KF := KF
      by_cases hlo : bits < 3
      · have p1 : decide (bits < 3) = true := decide_eq_true hlo
        clear hn h hT hT10 hg hd hb hlo
        go_enter Tryz.func55, Tryz.ntmps55
        go_wp2_with (first | (go_at_call 48; (with_reducible refine (KF.out _ HA0.out.bel).mono ?_); rintro e w1 ⟨rfl, hb1⟩
                              have HA1 := Lib.hid (HA0.out.next hb1)
                              obtain ⟨p0, t0, t1, t2, _, _⟩ := HA1.out
                              obtain ⟨r0, r1, r2, g0, g1, g2⟩ := HA1.out.r0
                              clear hb1))
        refine bodyPost_ret (v := .tuple #[.string ⟨#[]⟩, .agg #[.slice none 0 0, .string ⟨#[]⟩, .int .i64 0], .int .i64 2]) (by simp [results, Tryz.results55, go_sem, r0, r1, r2]) rfl ⟨.inr ⟨by decide, rfl⟩, HA1.out.bel3⟩
      · have p1 : decide (bits < 3) = false := decide_eq_false hlo
        have p2 : decide ((60 : Int) < bits) = true := by rw [decide_eq_true_eq]; omega
        clear hn h hT hT10 hg hd hb hlo
        go_enter Tryz.func55, Tryz.ntmps55
        go_wp2_with (first | (go_at_call 48; (with_reducible refine (KF.out _ HA0.out.bel).mono ?_); rintro e w1 ⟨rfl, hb1⟩
                              have HA1 := Lib.hid (HA0.out.next hb1)
                              obtain ⟨p0, t0, t1, t2, _, _⟩ := HA1.out
                              obtain ⟨r0, r1, r2, g0, g1, g2⟩ := HA1.out.r0
                              clear hb1))
        refine bodyPost_ret (v := .tuple #[.string ⟨#[]⟩, .agg #[.slice none 0 0, .string ⟨#[]⟩, .int .i64 0], .int .i64 2]) (by simp [results, Tryz.results55, go_sem, r0, r1, r2]) rfl ⟨.inr ⟨by decide, rfl⟩, HA1.out.bel3⟩

end Go.Proofs.YtdajbcohmnmbpaaGreatDoor
