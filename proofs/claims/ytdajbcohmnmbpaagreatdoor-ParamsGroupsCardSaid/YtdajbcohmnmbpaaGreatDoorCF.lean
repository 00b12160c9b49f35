/- The walk of the reference's search (package 11). -/
import Derived.Test.YtdajbcohmnmbpaaGreatDoorCE
import Derived.Deep.DeepCutAuto
import Derived.Deep.CutBlock
import Derived.Deep.RegionHeld3
namespace Go.Proofs.YtdajbcohmnmbpaaGreatDoor
open Go.RowKit
set_option maxRecDepth 100000
set_option linter.unusedVariables false
set_option maxHeartbeats 4000000

/-- What a search of the reference hands back; the tape's row lies at k or above. -/
def searchPostR (k : Nat) (d : Int × Nat × Int) (n : Nat) (seed : ByteArray) (vals : List ByteArray) (e : Ending) (w' : World) : Prop :=
  (d.1 = 0 ∧ ∃ A' c', e = .returned (.tuple #[.string (B d.2.1), .agg #[.slice A' n c', .string seed, .int .i64 d.2.2], .int .i64 0]) ∧ SLs w' w'.heap.size A' vals ∧ ∀ a, A' = some a → k ≤ a.block) ∨
  (d.1 ≠ 0 ∧ e = .returned (.tuple #[.string ⟨#[]⟩, .agg #[.slice none 0 0, .string ⟨#[]⟩, .int .i64 0], .int .i64 d.1]))
/-- The tape that a draw hands on, in its box. -/
structure NxB (w wx : World) (gn : Nat) (A : Option Addr) (n c : Nat) (seed : ByteArray) (z : Int) : Prop where
  x0 : wx.cell? ⟨gn, 0, none⟩ = some (.slice A n c)
  x1 : wx.cell? ⟨gn, 1, none⟩ = some (.string seed)
  x2 : wx.cell? ⟨gn, 2, none⟩ = some (.int .i64 z)
  lo : w.heap.size + 2 ≤ gn
theorem r01_Small_B (n : Nat) (w : World) (hn : n < 18446744073709551616) : Calls Tryz.prog 52 #[.string (B n)] w fun e w' => e = .returned (.tuple #[.int .u64 (n : Nat), .bool true]) ∧ w = w' := by
  have hsm : natSmall (B n) = (n, true) := by
    unfold natSmall
    rw [valid_B (u64_lt_lim hn), num_B]
    have : (B n).size ≤ 8 := B_size_le'.2 (by omega)
    simp [this]
  have := r01_Small (B n) w
  rwa [hsm] at this
theorem put1 {P Q : Prop} (p : P) (k : P → Q) : Q := k p
/-- A fresh box of a tape. -/
structure ZBox (w : World) (g : Nat) : Prop where
  n0 : w.cell? ⟨g, 0, none⟩ = some (.slice none 0 0)
  n1 : w.cell? ⟨g, 1, none⟩ = some (.string ⟨#[]⟩)
  n2 : w.cell? ⟨g, 2, none⟩ = some (.int .i64 0)
  f0 : w.frozen? ⟨g, 0, none⟩ = false
  f1 : w.frozen? ⟨g, 1, none⟩ = false
  f2 : w.frozen? ⟨g, 2, none⟩ = false
theorem ZBox.lt {w : World} {g : Nat} (h : ZBox w g) : g < w.heap.size := cell_in (a := ⟨g, 0, none⟩) h.n0
theorem ZBox.of {B : Nat} {w w' : World} {g : Nat} (hb : Below B w w') (hg : g < B) (h : ZBox w g) : ZBox w' g :=
  ⟨(hb.cell (p := ⟨g, 0, none⟩) hg).trans h.n0, (hb.cell (p := ⟨g, 1, none⟩) hg).trans h.n1, (hb.cell (p := ⟨g, 2, none⟩) hg).trans h.n2, (hb.frozen (p := ⟨g, 0, none⟩) hg).trans h.f0, (hb.frozen (p := ⟨g, 1, none⟩) hg).trans h.f1, (hb.frozen (p := ⟨g, 2, none⟩) hg).trans h.f2⟩
/-- What holds behind a round's draw. -/
structure CutS (w wx : World) (gn : Nat) (A' : Option Addr) (c' : Nat) (A2 : Option Addr) (c2 n : Nat) (seed : ByteArray) (zi : Int) (vals : List ByteArray) : Prop where
  nx : NxB w wx gn A2 n c2 seed (zi + 1)
  hat : AtS w wx A' n c' seed zi
  sl : SLs wx wx.heap.size A2 vals
  fr : ∀ a, A2 = some a → w.heap.size + 2 ≤ a.block
theorem AtS.two {w wr : World} {A' : Option Addr} {n c' : Nat} {seed : ByteArray} {zi : Int} (h : AtS w wr A' n c' seed zi) : w.heap.size + 2 ≤ wr.heap.size := by
  have := cell_in h.a.r0.1
  exact this
theorem CutS.new {w wr w7 : World} {A' A2 : Option Addr} {c' c2 n : Nat} {seed : ByteArray} {zi : Int} {vals : List ByteArray} (h : AtS w wr A' n c' seed zi) (hq : Below wr.heap.size wr w7)
    (hs : SLs w7 w7.heap.size A2 vals) (hf : ∀ a, A2 = some a → wr.heap.size ≤ a.block) :
    CutS w (w7.alloc (.cells #[.slice A2 n c2, .string seed, .int .i64 (zi + 1)] 24)) w7.heap.size A' c' A2 c2 n seed zi vals :=
  ⟨⟨by simp [go_sem], by simp [go_sem], by simp [go_sem], Nat.le_trans h.two hq.size⟩, h.next (hq.alloc hq.size _), hs.to ((Below.refl _ _).alloc (Nat.le_refl _) _), fun a e => Nat.le_trans h.two (hf a e)⟩
theorem AtS.box {w wr w7 : World} {gn : Nat} {A' : Option Addr} {c' n : Nat} {seed : ByteArray} {zi : Int} {x y t : Value} (h : AtS w wr A' n c' seed zi) (hq : Below wr.heap.size wr w7) (hg : wr.heap.size ≤ gn) :
    AtS w (((w7.setCell ⟨gn, 0, none⟩ x).setCell ⟨gn, 1, none⟩ y).setCell ⟨gn, 2, none⟩ t) A' n c' seed zi :=
  h.next (((hq.setCell (p := ⟨gn, 0, none⟩) hg _).setCell (p := ⟨gn, 1, none⟩) hg _).setCell (p := ⟨gn, 2, none⟩) hg _)
theorem SLs.far {w : World} {b k : Nat} {A : Option Addr} {vals : List ByteArray} {x y t : Value} (hs : SLs w k A vals) (hb : ∀ a, A = some a → b ≠ a.block) :
    SLs (((w.setCell ⟨b, 0, none⟩ x).setCell ⟨b, 1, none⟩ y).setCell ⟨b, 2, none⟩ t) k A vals := by
  intro hne
  obtain ⟨ad, e, hb', hc⟩ := hs hne
  exact ⟨ad, e, hb', fun j hj => hop3 (a := ad.add j) (by have := hb ad e; rwa [show (ad.add j).block = ad.block by unfold Addr.add; split <;> rfl]) (hc j hj)⟩
theorem CutS.put {w wr w7 : World} {gn : Nat} {A' A2 : Option Addr} {c' c2 n : Nat} {seed : ByteArray} {zi : Int} {vals : List ByteArray} (h : AtS w wr A' n c' seed zi) (hq : Below wr.heap.size wr w7)
    (hs : SLs w7 w7.heap.size A2 vals) (hz : ZBox w7 gn ∧ wr.heap.size ≤ gn ∧ ∀ a, A2 = some a → gn < a.block) :
    CutS w (((w7.setCell ⟨gn, 0, none⟩ (.slice A2 n c2)).setCell ⟨gn, 1, none⟩ (.string seed)).setCell ⟨gn, 2, none⟩ (.int .i64 (zi + 1))) gn A' c' A2 c2 n seed zi vals := by
  obtain ⟨hz, hg, hf⟩ := hz
  refine ⟨⟨?_, ?_, ?_, Nat.le_trans h.two hg⟩, ?_, ?_, fun a e => Nat.le_trans h.two (Nat.le_trans hg (Nat.le_of_lt (hf a e)))⟩
  · refine (World.cell?_setCell_other _ _ _ _ (by simp)).trans ((World.cell?_setCell_other _ _ _ _ (by simp)).trans ?_)
    exact World.cell?_setCell_same _ _ _ hz.n0
  · refine (World.cell?_setCell_other _ _ _ _ (by simp)).trans ?_
    exact World.cell?_setCell_same _ _ _ ((World.cell?_setCell_other _ _ _ _ (by simp)).trans hz.n1)
  · exact World.cell?_setCell_same _ _ _ ((World.cell?_setCell_other _ _ _ _ (by simp)).trans ((World.cell?_setCell_other _ _ _ _ (by simp)).trans hz.n2))
  · exact h.next (((hq.setCell (p := ⟨gn, 0, none⟩) hg _).setCell (p := ⟨gn, 1, none⟩) hg _).setCell (p := ⟨gn, 2, none⟩) hg _)
  · have e : ((((w7.setCell ⟨gn, 0, none⟩ (.slice A2 n c2)).setCell ⟨gn, 1, none⟩ (.string seed)).setCell ⟨gn, 2, none⟩ (.int .i64 (zi + 1)))).heap.size = w7.heap.size := by simp
    rw [e]
    exact hs.far (fun a e => Nat.ne_of_lt (hf a e))
theorem r11_search (vals : List ByteArray) (A : Option Addr) (n c : Nat) (seed : ByteArray) (z : Int) (k fr st : Nat) (both : Bool) (f : Nat → Nat × Bool) (w : World) (hn : vals.length = n) (hm : n ≤ 1000) (h : SLs w w.heap.size A vals)
    (hk : k ≤ 59) (hs : seed.size ≤ 100000) (hf : ∀ x : Nat, x < 2 ^ k → fr + st * x < 18446744073709551616 ∧ f x = (fr + st * x, isS (fr + st * x) && (!both || isS ((fr + st * x) / 2)))) :
    Calls Tryz.prog 118 #[.int .i64 k, .int .u64 fr, .int .u64 st, .bool both, .agg #[.slice A n c, .string seed, .int .i64 z]] w fun e w' => searchPostR w.heap.size (searchS vals seed (2 ^ k) f 65536 z) n seed vals e w' ∧ Below w.heap.size w w' := by
  obtain ⟨M, hM⟩ : ∃ M, M = 2 ^ k := ⟨_, rfl⟩
  have hM64 : M < 18446744073709551616 := by rw [hM]; exact Nat.lt_of_le_of_lt (Nat.pow_le_pow_right (by decide) hk) (by decide)
  have hM0 : 1 ≤ M := by rw [hM]; exact Nat.pow_pos (by decide)
  have KPW := fun w => r11_power k w (by omega)
  rw [← hM] at KPW hf ⊢
  have KPW := Lib.hid KPW
  have KO := Lib.hid (fun w => r01_Of M w hM64)
  have HM := Lib.hid (And.intro hM0 hM64)
  have HF := Lib.hid hf
  have HS := Lib.hid h
  have HN := Lib.hid hn
  have HA0 := Lib.hid (AtS.start w A n c seed z)
  have HHS := Lib.hid (And.intro hs (And.intro hm hk))
  clear hM hM0 hM64 hf h hn hs hm hk
  obtain ⟨T, hT2⟩ : ∃ T, T = 65536 := ⟨_, rfl⟩
  obtain ⟨D, hD⟩ : ∃ D, D = searchS vals seed M f 65536 z := ⟨_, rfl⟩
  rw [← hD]
  rw [← hT2] at hD
  have HTT := Lib.hid hT2
  have HD := Lib.hid hD
  clear hD hT2
  go_enter Tryz.func118, Tryz.ntmps118
  go_wp2_with fail
  go_loopw [13] (fun v wr => ∃ (i : Nat) (A' : Option Addr) (c' : Nat), v = .int .i64 i ∧ i ≤ 65536 ∧ AtS w wr A' n c' seed (z + i) ∧ SLs wr wr.heap.size A' vals ∧ searchS vals seed M f (T - i) (z + i) = D) (fun v _ => T - (intOf v).toNat)
  case atStart => exact ⟨0, A, c, rfl, by decide, by simpa using HA0.out, (HS.out.below HA0.out.a.bel).more HA0.out.a.bel.size, by rw [HD.out]; simp⟩
  case round =>
    clear HA0
    obtain ⟨i, A', c', rfl, hi, hat, hsl, hse⟩ := hrel
    have HA := Lib.hid hat
    have HSL := Lib.hid hsl
    have HSE := Lib.hid hse
    clear hat hsl hse
    by_cases hlt : i < 65536
    · obtain ⟨zi, hzi⟩ : ∃ zi, zi = z + (i : Int) := ⟨_, rfl⟩
      rw [← hzi] at HA HSE
      obtain ⟨d, hd⟩ : ∃ d, d = belowS vals seed zi M := ⟨_, rfl⟩
      have hKB := fun wq (hb : Below wr.heap.size wr wq) => r06_Below vals A' n c' seed zi M wq HN.out HHS.out.2.1 (HSL.out.to hb) HM.out.1 HM.out.2 HHS.out.1
      rw [← hd] at hKB
      have t0 := HA.out.a.t0
      have t1 := HA.out.a.t1
      have t2 := HA.out.a.t2
      have p1 : decide ((i : Int) < 65536) = true := by rw [decide_eq_true_eq]; omega
      have HLT := Lib.hid hlt
      have HZI := Lib.hid hzi
      have HDD := Lib.hid hd
      by_cases h0 : d.1 = 0
      · have hx : d.2 < M := by rw [hd]; exact belowS_lt HM.out.1 (by rw [← hd]; exact h0)
        obtain ⟨x, hxd⟩ : ∃ x, x = d.2 := ⟨_, rfl⟩
        have KE := Lib.hid (fun wq (hb : Below wr.heap.size wr wq) => (hKB wq hb).mono (R' := fun e w' => (∃ A2 c2, e = .returned (.tuple #[.string (B x), .agg #[.slice A2 n c2, .string seed, .int .i64 (zi + 1)], .int .i64 0]) ∧ SLs w' w'.heap.size A2 vals ∧ ∀ a, A2 = some a → wq.heap.size ≤ a.block) ∧ Below wq.heap.size wq w') (by
          rintro e w' ⟨⟨_, hp⟩ | ⟨h, _⟩, hb⟩
          · rw [hxd]; exact ⟨hp, hb⟩
          · exact absurd h0 h))
        have HX := Lib.hid (And.intro hxd (And.intro hx h0))
        clear hKB hlt hzi hd hi hxd hx h0
        go_upto_region 4 with fail
        go_cut [14, 15, 16] (fun a b c wx => a = .string (B x) ∧ c = .int .i64 0 ∧ ∃ (gn : Nat) (A2 : Option Addr) (c2 : Nat), b = .pointer (some ⟨gn, 0, none⟩) ∧ CutS w wx gn A' c' A2 c2 n seed zi vals)
        case first =>
          go_region_held3 (fun w' => w'.cell? ⟨w.heap.size, 0, none⟩ = some (.slice A' n c') ∧ w'.cell? ⟨w.heap.size, 1, none⟩ = some (.string seed) ∧ w'.cell? ⟨w.heap.size, 2, none⟩ = some (.int .i64 zi)) (first | go_keep) (first
            | (go_at_call 119; (with_reducible refine (KPW.out _).mono ?_); rintro e w5 ⟨rfl, rfl⟩)
            | (go_at_call 54; (with_reducible refine (KO.out _).mono ?_); rintro e w6 ⟨rfl, hb6⟩
               have HB6 : Hid (Below wr.heap.size wr w6) := Lib.hid (by
                 refine Below.trans ?_ (hb6.mono (B' := wr.heap.size) ?_)
                 · repeat (first | with_reducible exact Below.refl _ _ | with_reducible refine Below.drew ?_ | with_reducible refine Below.alloc ?_ ?_ _ | (simp; done) | (simp; omega))
                 · first | (simp; done) | (simp; omega))
               have HB66 := Lib.hid hb6
               obtain ⟨t0, t1, t2, _, _⟩ := (HA.out.next HB6.out).a
               have D6 : w6.heap.size ≠ w.heap.size := World.new_ne w6 ⟨w.heap.size, 0, none⟩ t0
               try (refine put1 (P := ZBox w6 wr.heap.size) (ZBox.of hb6 ?_ ?_) (fun NN => ?_); (focus (simp; done)); (focus (constructor <;> simp [go_sem])))
               clear hb6)
            | (go_at_call 87
               have hs6 := HB6.out.size
               (with_reducible refine (KE.out _ (by repeat (first | with_reducible exact HB6.out | with_reducible refine Below.drew ?_ | with_reducible refine Below.alloc ?_ ?_ _ | with_reducible exact hs6 | (simp; done) | (simp; omega)))).mono ?_)
               rintro e w7 ⟨⟨A2, c2, rfl, hsl2, hfr⟩, hb7⟩
               have HQ : Hid (Below wr.heap.size wr w7) := Lib.hid (by
                   refine Below.trans ?_ (hb7.mono (B' := wr.heap.size) ?_)
                   · repeat (first | with_reducible exact HB6.out | with_reducible refine Below.drew ?_ | with_reducible refine Below.alloc ?_ ?_ _ | with_reducible exact hs6 | (simp; done) | (simp; omega))
                   · first | (simp; done) | (simp; omega) | omega)
               have HA7 := Lib.hid (HA.out.next HQ.out)
               have HSL7 := Lib.hid hsl2
               have HB7 := Lib.hid hb7
               obtain ⟨t0, t1, t2, _, _⟩ := HA7.out.a
               try (refine put1 (P := Hid (ZBox w7 w6.heap.size ∧ wr.heap.size ≤ w6.heap.size ∧ ∀ a, A2 = some a → w6.heap.size < a.block)) (Lib.hid ⟨ZBox.of hb7 ?_ ?_, hs6, fun a e => Nat.lt_of_lt_of_le ?_ (hfr a e)⟩) (fun HNN => ?_); (focus (simp; done)); (focus (constructor <;> simp [go_sem])); (focus (simp; done)))
               try (refine put1 (P := Hid (ZBox w7 wr.heap.size ∧ wr.heap.size ≤ wr.heap.size ∧ ∀ a, A2 = some a → wr.heap.size < a.block)) (Lib.hid ⟨ZBox.of hb7 (ZBox.lt (w := w6) ?_) ?_, Nat.le_refl _, fun a e => Nat.lt_of_lt_of_le (ZBox.lt (w := w6) ?_) (hfr a e)⟩) (fun HNN => ?_); assumption; assumption; assumption)
               have HFR : Hid (∀ a, A2 = some a → wr.heap.size ≤ a.block) := Lib.hid (fun a e => Nat.le_trans (by first | with_reducible exact hs6 | (simp; omega)) (hfr a e))
               try obtain ⟨N0, N1, N2, F0, F1, F2⟩ := HNN.out.1
               have D0 : wr.heap.size ≠ w.heap.size := World.new_ne wr ⟨w.heap.size, 0, none⟩ HA.out.a.t0
               clear hb7 hsl2 hfr hs6))
          all_goals
            go_wp2_with fail
            go_meet
            first
              | exact ⟨rfl, rfl, _, A2, c2, rfl, CutS.new HA.out HQ.out HSL7.out HFR.out⟩
              | exact ⟨rfl, rfl, _, A2, c2, rfl, CutS.put HA.out HQ.out HSL7.out HNN.out⟩
        case rest =>
          obtain ⟨rfl, rfl, gn, A2, c2, rfl, hcs⟩ := hcut
          obtain ⟨hx1, hx2, hx3⟩ := HX.out
          obtain ⟨hP64, hfx⟩ := HF.out x (by rw [hx1]; exact hx2)
          have hx64 : x < 18446744073709551616 := by rw [hx1]; exact Nat.lt_trans hx2 HM.out.2
          have m1 : IntKind.u64.wrap ((st : Int) * (x : Int)) = (st : Int) * (x : Int) := by rw [IntKind.wrap_u64, ← Int.natCast_mul]; omega
          obtain ⟨P, hP⟩ : ∃ P, P = fr + st * x := ⟨_, rfl⟩
          rw [← hP] at hP64 hfx
          have m2 : IntKind.u64.wrap ((fr : Int) + (st : Int) * (x : Int)) = (P : Int) := by rw [IntKind.wrap_u64, ← Int.natCast_mul, ← Int.natCast_add, ← hP]; omega
          have KSM := Lib.hid (fun w => r01_Small_B x w hx64)
          have KI1 := Lib.hid (fun w => r11_isPrime P w hP64)
          have KI2 := Lib.hid (fun w => r11_isPrime (P / 2) w (by omega))
          have KOP := Lib.hid (fun w => r01_Of P w hP64)
          have HFX := Lib.hid hfx
          have HP64 := Lib.hid hP64
          have HC := Lib.hid hcs
          obtain ⟨x0, x1, x2, lo⟩ := hcs.nx
          obtain ⟨⟨t0, t1, t2, _, _⟩, f0, f1, f2⟩ := hcs.hat
          have HA3 := Lib.hid (HC.out.hat.put (A' := A2) (n' := n) (c' := c2) (seed' := seed) (z' := zi + 1))
          have HSL3 := Lib.hid (SLs.far (b := w.heap.size) (x := .slice A2 n c2) (y := .string seed) (t := .int .i64 (zi + 1)) HC.out.sl (fun a e => by have := HC.out.fr a e; omega))
          clear hcs hx1 hx2 hx3 hP64 hfx hx64 hP lo
          go_upto_region 10 with (go_at_call 52; (with_reducible refine (KSM.out _).mono ?_); rintro e w3 ⟨rfl, rfl⟩)
          obtain ⟨ok, hok⟩ : ∃ ok, ok = (isS P && (!both || isS (P / 2))) := ⟨_, rfl⟩
          have HOK := Lib.hid hok
          go_cut [58] (fun a wx => a = .bool ok ∧ AtS w wx A2 n c2 seed (zi + 1) ∧ SLs wx wx.heap.size A2 vals)
          case first =>
            obtain ⟨b1, hb1⟩ : ∃ b, b = isS P := ⟨_, rfl⟩
            obtain ⟨b2, hb2⟩ : ∃ b, b = isS (P / 2) := ⟨_, rfl⟩
            rw [← hb1, ← hb2] at hok
            rw [← hb1] at KI1
            rw [← hb2] at KI2
            obtain ⟨P2, hP2⟩ : ∃ P2, P2 = P / 2 := ⟨_, rfl⟩
            have e2 : (P : Int) / 2 = (P2 : Int) := by omega
            rw [← hP2] at KI2
            have e3 : IntKind.u64.wrap (P2 : Int) = (P2 : Int) := by have := HP64.out; rw [IntKind.wrap_u64]; omega
            clear hb1 hb2 hP2
            cases b1
            · rw [Bool.false_and] at hok
              subst hok
              go_wp2_with (go_at_call 53; (with_reducible refine (KI1.out _).mono ?_); rintro e w4 ⟨rfl, hb4⟩; have HA4 := Lib.hid (HA3.out.next hb4); have HSL4 := Lib.hid (SLs.to (HSL3.out.more (by simp)) hb4); clear hb4)
              go_meet
              exact ⟨rfl, HA4.out, HSL4.out⟩
            · cases both
              · replace hok : ok = true := hok
                subst hok
                clear e2 e3 m1 KI2
                go_wp2_with (go_at_call 53; (with_reducible refine (KI1.out _).mono ?_); rintro e w4 ⟨rfl, hb4⟩; have HA4 := Lib.hid (HA3.out.next hb4); have HSL4 := Lib.hid (SLs.to (HSL3.out.more (by simp)) hb4); clear hb4)
                go_meet
                exact ⟨rfl, HA4.out, HSL4.out⟩
              · replace hok : ok = b2 := hok
                subst hok
                go_wp2_with (first
                  | (go_at_call 53; (with_reducible refine (KI1.out _).mono ?_); rintro e w4 ⟨rfl, hb4⟩; have HA4 := Lib.hid (HA3.out.next hb4); have HSL4 := Lib.hid (SLs.to (HSL3.out.more (by simp)) hb4); clear hb4)
                  | (go_at_call 53; (with_reducible refine (KI2.out _).mono ?_); rintro e w5 ⟨rfl, hb5⟩; have HA5 := Lib.hid (HA4.out.next hb5); have HSL5 := Lib.hid (SLs.to HSL4.out hb5); clear hb5))
                go_meet
                exact ⟨rfl, HA5.out, HSL5.out⟩
          case rest =>
            obtain ⟨rfl, hat5, hsl5⟩ := hcut
            have HA5 := Lib.hid hat5
            have HSL5 := Lib.hid hsl5
            obtain ⟨⟨t0, t1, t2, _, _⟩, f0, f1, f2⟩ := hat5
            obtain ⟨r0, r1, r2, g0, g1, g2⟩ := HA5.out.a.r0
            clear hsl5 HA3 HSL3 hok
            cases ok
            · have hse : searchS vals seed M f (T - (i + 1)) (z + (i + 1 : Nat)) = D := by
                rw [← HSE.out, show T - i = (T - (i + 1)) + 1 by have := HTT.out; have := HLT.out; omega]
                rw [searchS_on (by rw [← HDD.out]; exact HX.out.2.2) (by rw [← HDD.out, ← HX.out.1, HFX.out]; exact HOK.out.symm)]
                rw [zi_next HZI.out]
              have HSE2 := Lib.hid hse
              clear hse
              go_wp2_with fail
              go_roundw
              case rel => exact ⟨i + 1, A2, c2, step64 HLT.out, HLT.out, by have := HA5.out; rwa [zi_next HZI.out], HSL5.out, HSE2.out⟩
              case measure => exact measT (by rw [HTT.out]; exact HLT.out) HLT.out
            · have hse : D = (0, P, zi + 1) := by
                rw [← HSE.out, show T - i = (T - (i + 1)) + 1 by have := HTT.out; have := HLT.out; omega]
                rw [searchS_hit (by rw [← HDD.out]; exact HX.out.2.2) (by rw [← HDD.out, ← HX.out.1, HFX.out]; exact HOK.out.symm), ← HDD.out, ← HX.out.1, HFX.out]
              have HSE2 := Lib.hid hse
              clear hse
              go_upto_region 11 with fail
              go_region_held3 (fun w' => w'.cell? ⟨w.heap.size, 0, none⟩ = some (.slice A2 n c2) ∧ w'.cell? ⟨w.heap.size, 1, none⟩ = some (.string seed) ∧ w'.cell? ⟨w.heap.size, 2, none⟩ = some (.int .i64 (zi + 1))) (first | go_keep) (first
                | (go_at_call 54; (with_reducible refine (KOP.out _).mono ?_); rintro e w6 ⟨rfl, hb6⟩
                   have HA6 : Hid (AtS w w6 A2 n c2 seed (zi + 1)) := by first | exact Lib.hid (HA5.out.next hb6) | exact Lib.hid ((HA5.out.next (Below.refl _ _).drew).next hb6)
                   have HSL6 : Hid (SLs w6 w6.heap.size A2 vals) := by first | exact Lib.hid (HSL5.out.to hb6) | exact Lib.hid ((HSL5.out.to (Below.refl _ _).drew).to hb6)
                   obtain ⟨t0, t1, t2, _, _⟩ := HA6.out.a
                   obtain ⟨r0, r1, r2, g0, g1, g2⟩ := HA6.out.a.r0))
              all_goals
                go_wp2_with fail
                refine bodyPost_ret (v := .tuple #[.string (B P), .agg #[.slice A2 n c2, .string seed, .int .i64 (zi + 1)], .int .i64 0]) (by simp [results, Tryz.results118, go_sem, r0, r1, r2]) rfl ⟨?_, HA6.out.a.bel3⟩
                rw [HSE2.out]
                refine .inl ⟨rfl, A2, c2, rfl, ?_, fun a e => Nat.le_trans (Nat.le_add_right _ 2) (HC.out.fr a e)⟩
                have hfar := SLs.far (b := w.heap.size + 1) (x := .slice A2 n c2) (y := .string seed) (t := .int .i64 (zi + 1)) HSL6.out (fun a e => by have := HC.out.fr a e; omega)
                exact hfar.more (by simp)
      · have KE := Lib.hid (fun wq (hb : Below wr.heap.size wr wq) => (hKB wq hb).mono (R' := fun e w' => e = .returned (.tuple #[.string ⟨#[]⟩, .agg #[.slice none 0 0, .string ⟨#[]⟩, .int .i64 0], .int .i64 d.1]) ∧ Below wq.heap.size wq w') (by
          rintro e w' ⟨⟨h, _⟩ | ⟨_, hp⟩, hb⟩
          · exact absurd h h0
          · exact ⟨hp, hb⟩))
        have hDe : D = (d.1, 0, 0) := by
          rw [← HSE.out, hd, show T - i = (T - i - 1) + 1 by have := HTT.out; omega]
          exact searchS_err (by rw [← hd]; exact h0)
        have H0 := Lib.hid h0
        obtain ⟨er, her⟩ : ∃ er, er = d.1 := ⟨_, rfl⟩
        have hne : (er == 0) = false := by rw [her, beq_eq_false_iff_ne]; exact h0
        rw [← her] at KE hDe
        have HER := Lib.hid her
        have HDE := Lib.hid hDe
        clear hKB hlt hzi hd h0 hDe hi her
        go_upto_region 4 with fail
        go_cut [14, 15, 16] (fun a b c wx => a = .string ⟨#[]⟩ ∧ c = .int .i64 er ∧ (∃ p, b = .pointer p) ∧ AtS w wx A' n c' seed zi)
        case first =>
          go_region_held3 (fun w' => w'.cell? ⟨w.heap.size, 0, none⟩ = some (.slice A' n c') ∧ w'.cell? ⟨w.heap.size, 1, none⟩ = some (.string seed) ∧ w'.cell? ⟨w.heap.size, 2, none⟩ = some (.int .i64 zi)) (first | go_keep) (first
            | (go_at_call 119; (with_reducible refine (KPW.out _).mono ?_); rintro e w5 ⟨rfl, rfl⟩)
            | (go_at_call 54; (with_reducible refine (KO.out _).mono ?_); rintro e w6 ⟨rfl, hb6⟩
               have HB6 : Hid (Below wr.heap.size wr w6) := Lib.hid (by
                 refine Below.trans ?_ (hb6.mono (B' := wr.heap.size) ?_)
                 · repeat (first | with_reducible exact Below.refl _ _ | with_reducible refine Below.drew ?_ | with_reducible refine Below.alloc ?_ ?_ _ | (simp; done) | (simp; omega))
                 · first | (simp; done) | (simp; omega))
               have HB66 := Lib.hid hb6
               obtain ⟨t0, t1, t2, _, _⟩ := (HA.out.next HB6.out).a
               have D6 : w6.heap.size ≠ w.heap.size := World.new_ne w6 ⟨w.heap.size, 0, none⟩ t0
               try (refine put1 (P := ZBox w6 wr.heap.size) (ZBox.of hb6 ?_ ?_) (fun NN => ?_); (focus (simp; done)); (focus (constructor <;> simp [go_sem])))
               clear hb6)
            | (go_at_call 87
               have hs6 := HB6.out.size
               (with_reducible refine (KE.out _ (by repeat (first | with_reducible exact HB6.out | with_reducible refine Below.drew ?_ | with_reducible refine Below.alloc ?_ ?_ _ | with_reducible exact hs6 | (simp; done) | (simp; omega)))).mono ?_)
               rintro e w7 ⟨rfl, hb7⟩
               have HQ : Hid (Below wr.heap.size wr w7) := Lib.hid (by
                   refine Below.trans ?_ (hb7.mono (B' := wr.heap.size) ?_)
                   · repeat (first | with_reducible exact HB6.out | with_reducible refine Below.drew ?_ | with_reducible refine Below.alloc ?_ ?_ _ | with_reducible exact hs6 | (simp; done) | (simp; omega))
                   · first | (simp; done) | (simp; omega) | omega)
               have HA7 := Lib.hid (HA.out.next HQ.out)
               have HB7 := Lib.hid hb7
               obtain ⟨t0, t1, t2, _, _⟩ := HA7.out.a
               try (refine put1 (P := Hid (ZBox w7 w6.heap.size ∧ wr.heap.size ≤ w6.heap.size)) (Lib.hid ⟨ZBox.of hb7 ?_ ?_, hs6⟩) (fun HNN => ?_); (focus (simp; done)); (focus (constructor <;> simp [go_sem])))
               try (refine put1 (P := Hid (ZBox w7 wr.heap.size ∧ wr.heap.size ≤ wr.heap.size)) (Lib.hid ⟨ZBox.of hb7 (ZBox.lt (w := w6) ?_) ?_, Nat.le_refl _⟩) (fun HNN => ?_); assumption; assumption)
               try obtain ⟨N0, N1, N2, F0, F1, F2⟩ := HNN.out.1
               have D0 : wr.heap.size ≠ w.heap.size := World.new_ne wr ⟨w.heap.size, 0, none⟩ HA.out.a.t0
               clear hb7 hs6))
          all_goals
            go_wp2_with fail
            go_meet
            first
              | exact ⟨rfl, rfl, ⟨_, rfl⟩, HA.out.next (HQ.out.alloc HQ.out.size _)⟩
              | exact ⟨rfl, rfl, ⟨_, rfl⟩, HA.out.box HQ.out HNN.out.2⟩
        case rest =>
          obtain ⟨rfl, rfl, ⟨p, rfl⟩, hat⟩ := hcut
          have HA3 := Lib.hid hat
          obtain ⟨r0, r1, r2, g0, g1, g2⟩ := HA3.out.a.r0
          clear hat t0 t1 t2 p1
          go_upto_region 6 with fail
          go_wp2_with fail
          refine bodyPost_ret (v := .tuple #[.string ⟨#[]⟩, .agg #[.slice none 0 0, .string ⟨#[]⟩, .int .i64 0], .int .i64 er]) (by simp [results, Tryz.results118, go_sem, r0, r1, r2]) rfl ⟨?_, HA3.out.a.bel3⟩
          rw [HDE.out]
          exact .inr ⟨fun e => H0.out (HER.out.symm.trans e), rfl⟩
    · have p1 : decide ((i : Int) < 65536) = false := by rw [decide_eq_false_iff_not]; omega
      have hDe : D = (12, 0, 0) := by
        rw [← HSE.out, show T - i = 0 by have := HTT.out; omega]
        rfl
      have HDE := Lib.hid hDe
      obtain ⟨r0, r1, r2, g0, g1, g2⟩ := HA.out.a.r0
      clear hlt hDe hi
      go_wp2_with fail
      refine bodyPost_ret (v := .tuple #[.string ⟨#[]⟩, .agg #[.slice none 0 0, .string ⟨#[]⟩, .int .i64 0], .int .i64 12]) (by simp [results, Tryz.results118, go_sem, r0, r1, r2]) rfl ⟨?_, HA.out.a.bel3⟩
      rw [HDE.out]
      exact .inr ⟨by decide, rfl⟩

end Go.Proofs.YtdajbcohmnmbpaaGreatDoor
