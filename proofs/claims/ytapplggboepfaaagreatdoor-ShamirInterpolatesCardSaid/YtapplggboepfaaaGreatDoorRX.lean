/- The reference's extended algorithm (02.Extended), 02.Mod, and 03.Inverse. -/
import Derived.Test.YtapplggboepfaaaGreatDoorRI
namespace Go.Proofs.YtapplggboepfaaaGreatDoor
open Go.RowKit
set_option maxRecDepth 100000
set_option linter.unusedVariables false
set_option linter.unusedSimpArgs false
set_option maxHeartbeats 4000000

theorem ext_fin {a b G m k : Nat} {X Y : Int} (ha : a = G * k) (hb : b = G * m) (hE : (a : Int) * X + b * Y = G) (h0 : 0 < m) :
    (a : Int) * (((X % (m : Int)).toNat : Nat) : Int) + b * (Y + X / (m : Int) * k) = G ∧ (X % (m : Int)).toNat < m := by
  have h1 : 0 ≤ X % (m : Int) := Int.emod_nonneg _ (by omega)
  have h2 : X % (m : Int) < m := Int.emod_lt_of_pos _ (by omega)
  refine ⟨?_, by omega⟩
  rw [Int.toNat_of_nonneg h1, Int.emod_def]
  obtain ⟨q, hq⟩ : ∃ q, q = X / (m : Int) := ⟨_, rfl⟩
  rw [← hq]
  have h3 : (a : Int) * ((m : Int) * q) = (b : Int) * (q * (k : Int)) := by
    rw [ha, hb, Int.natCast_mul, Int.natCast_mul]
    ac_rfl
  rw [Int.mul_sub, Int.mul_add, h3]
  omega
theorem HZ.over {w wy : World} {P : Nat} {s t : Bool} {n k : Nat} {l : List (Nat × Bool × Nat)} (h : HZ w ((P, s, n) :: l) wy) (hne : ∀ p ∈ l, P ≠ p.1) :
    HZ w ((P, t, k) :: l) ((wy.setCell ⟨P, 0, none⟩ (.bool t)).setCell ⟨P, 1, none⟩ (.string (B k))) := by
  have hw : w.heap.size ≤ P := h.low (P, s, n) (List.mem_cons_self ..)
  refine ⟨fun p hp => ?_, (h.bel.setCell (p := ⟨P, 0, none⟩) hw _).setCell (p := ⟨P, 1, none⟩) hw _, fun p hp => ?_⟩
  · rcases List.mem_cons.1 hp with rfl | hp
    · exact (h.z _ (List.mem_cons_self ..)).set
    · exact (h.z p (List.mem_cons_of_mem _ hp)).far2 (hne p hp)
  · rcases List.mem_cons.1 hp with rfl | hp
    · exact hw
    · exact h.low p (List.mem_cons_of_mem _ hp)
theorem HZ.three {w wy : World} {p q r : Nat × Bool × Nat} (hb : Below w.heap.size w wy) (h1 : ZI wy p.1 p.2.1 p.2.2) (h2 : ZI wy q.1 q.2.1 q.2.2) (h3 : ZI wy r.1 r.2.1 r.2.2) (l1 : w.heap.size ≤ p.1) (l2 : w.heap.size ≤ q.1) (l3 : w.heap.size ≤ r.1) : HZ w [p, q, r] wy := by
  refine ⟨fun x hx => ?_, hb, fun x hx => ?_⟩
  · rcases List.mem_cons.1 hx with rfl | hx
    · exact h1
    · rcases List.mem_cons.1 hx with rfl | hx
      · exact h2
      · rcases List.mem_cons.1 hx with rfl | hx
        · exact h3
        · cases hx
  · rcases List.mem_cons.1 hx with rfl | hx
    · exact l1
    · rcases List.mem_cons.1 hx with rfl | hx
      · exact l2
      · rcases List.mem_cons.1 hx with rfl | hx
        · exact l3
        · cases hx
theorem far2cd {W : World} {g b k : Nat} {v u : Value} {x : Option Value} (h : W.cell? ⟨b, k, none⟩ = x) (hp : g ≠ b) : ((W.setCell ⟨g, 0, none⟩ v).setCell ⟨g, 1, none⟩ u).drew.cell? ⟨b, k, none⟩ = x := by
  rw [World.cell?_drew]; exact far2c h hp
theorem far4c {W : World} {g g' b k : Nat} {v u v' u' : Value} {x : Option Value} (h : W.cell? ⟨b, k, none⟩ = x) (hp : g ≠ b) (hp' : g' ≠ b) : ((((W.setCell ⟨g, 0, none⟩ v).setCell ⟨g, 1, none⟩ u).setCell ⟨g', 0, none⟩ v').setCell ⟨g', 1, none⟩ u').cell? ⟨b, k, none⟩ = x := far2c (far2c h hp) hp'
theorem far4cd {W : World} {g g' b k : Nat} {v u v' u' : Value} {x : Option Value} (h : W.cell? ⟨b, k, none⟩ = x) (hp : g ≠ b) (hp' : g' ≠ b) : ((((W.setCell ⟨g, 0, none⟩ v).setCell ⟨g, 1, none⟩ u).setCell ⟨g', 0, none⟩ v').setCell ⟨g', 1, none⟩ u').drew.cell? ⟨b, k, none⟩ = x := by
  rw [World.cell?_drew]; exact far4c h hp hp'
set_option maxHeartbeats 20000000 in
theorem r02_Extended (a b : Nat) (w : World) (ha : a < 18446744073709551616) (hb : b < 18446744073709551616) (hb0 : b ≠ 0) :
    Calls Tryz.prog 117 #[.string (B a), .string (B b)] w fun e w' => (∃ (Y : Int) (sY : Bool) (nX nY : Nat), e = .returned (.tuple #[.string (B (Nat.gcd a b)), .agg #[.bool false, .string (B nX)], .agg #[.bool sY, .string (B nY)], .int .i64 0]) ∧ (a : Int) * nX + b * Y = (Nat.gcd a b : Nat) ∧ nX ≤ b) ∧ Below w.heap.size w w' := by
  have va := valid_B (u64_lt_lim ha)
  have vb := valid_B (u64_lt_lim hb)
  have e0 : (B b).toList.isEmpty = false := B_isEmpty_false hb0
  have KZ := Lib.hid (fun w => r02_bezout b a w ha hb)
  unfold BezP at KZ
  have hG0 : 0 < Nat.gcd a b := Nat.gcd_pos_of_pos_right a (by omega)
  have hGa : a = Nat.gcd a b * (a / Nat.gcd a b) := (Nat.mul_div_cancel' (Nat.gcd_dvd_left a b)).symm
  have hGb : b = Nat.gcd a b * (b / Nat.gcd a b) := (Nat.mul_div_cancel' (Nat.gcd_dvd_right a b)).symm
  have hGl : Nat.gcd a b ≤ b := Nat.le_of_dvd (by omega) (Nat.gcd_dvd_right a b)
  obtain ⟨G, hG⟩ : ∃ G, G = Nat.gcd a b := ⟨_, rfl⟩
  rw [← hG] at KZ hG0 hGa hGb hGl ⊢
  have KM1 := Lib.hid (fun w => r01_DivMod8 b G w hb (by omega) hG0)
  have KM2 := Lib.hid (fun w => r01_DivMod8 a G w ha (by omega) hG0)
  have hml : b / G ≤ b := Nat.div_le_self b G
  have hkl : a / G ≤ a := Nat.div_le_self a G
  obtain ⟨m, hm⟩ : ∃ m, m = b / G := ⟨_, rfl⟩
  obtain ⟨k, hk⟩ : ∃ k, k = a / G := ⟨_, rfl⟩
  rw [← hm] at KM1 hml hGb
  rw [← hk] at KM2 hkl hGa
  have hm0 : 0 < m := by
    rcases Nat.eq_zero_or_pos m with h | h
    · rw [h, Nat.mul_zero] at hGb; exact absurd hGb hb0
    · exact h
  have KF1 := Lib.hid (fun w => r02_From m w (Lib.hid (u64_lt_lim (by omega))))
  have KF2 := Lib.hid (fun w => r02_From k w (Lib.hid (u64_lt_lim (by omega))))
  have HL := Lib.hid (And.intro ha (And.intro hb (And.intro hb0 (And.intro hGa (And.intro hGb (And.intro hm0 (And.intro hml hkl)))))))
  have HS := Lib.hid (HZ.start w 101)
  generalize b % G = rb at KM1
  generalize a % G = ra at KM2
  clear ha hb hb0 hG0 hGa hGb hGl hG hml hkl hm hk hm0
  go_enter Tryz.func117, Tryz.ntmps117
  go_upto_region 5 with (first | (go_at_call 32; refine (r01_Valid _ _).mono ?_; rintro e w' ⟨rfl, rfl⟩))
  go_cut [8, 9, 10] (fun a8 a9 a10 wx => a8 = .string (B G) ∧
      ∃ (P : Nat) (X Y : Int) (sX sY : Bool) (nX nY : Nat), w.heap.size + 1 < P ∧ a9 = .pointer (some ⟨P, 0, none⟩) ∧ a10 = .pointer (some ⟨P + 1, 0, none⟩) ∧ HZ w [(P + 1, sY, nY), (P, sX, nX), (w.heap.size + 1, false, 0), (w.heap.size, false, 0)] wx ∧
        (IsI X sX nX ∧ IsI Y sY nY ∧ (a : Int) * X + b * Y = (G : Nat) ∧ (b = 0 → X = 1 ∧ Y = 0) ∧ (b ≠ 0 → nX ≤ b ∧ nY ≤ max 1 a)))
  case first =>
    go_wp2_with (first
      | (go_at_call 144; (with_reducible refine (KZ.out _).mono ?_); rintro e w2 ⟨⟨X, Y, sX, sY, nX, nY, rfl, hbz⟩, hb2⟩; have HBZ := Lib.hid hbz; have HS2 := Lib.hid (HS.out.next hb2); clear hb2 hbz))
    go_meet
    refine ⟨rfl, w2.heap.size, X, Y, sX, sY, nX, nY, HS2.out.hd.lt, rfl, rfl, ?_, HBZ.out⟩
    have h1 := HS2.out.new (t := sX) (k := nX) (Below.refl _ _) 101
    have h2 := h1.new (t := sY) (k := nY) (Below.refl _ _) 101
    rw [World.size_alloc] at h2
    exact h2
  case rest =>
  obtain ⟨rfl, P, X, Y, sX, sY, nX, nY, hPl, rfl, rfl, hzz, hX, hY, hE, _, h1⟩ := hcut
  have hl := HL.out
  have h1 := h1 hl.2.2.1
  have hf := ext_fin hl.2.2.2.1 hl.2.2.2.2.1 hE hl.2.2.2.2.2.1
  obtain ⟨sQ, nQ, hQ, hQn, KD⟩ := r02_DivModI m hX (by omega) (by omega) hl.2.2.2.2.2.1
  obtain ⟨R, hR⟩ : ∃ R, R = (X % (m : Int)).toNat := ⟨_, rfl⟩
  rw [← hR] at KD hf
  have hpb : nQ * k ≤ 18446744073709551617 * 18446744073709551616 := Nat.mul_le_mul (by omega) (by omega)
  obtain ⟨sP, nP, hP, hPn, KM⟩ := r02_MulI hQ (isI_nat k) (big_lim (by omega)) (big_lim (by omega)) (big_lim (by omega))
  obtain ⟨sZ, nZ, hZ, KA⟩ := r02_AddI hY hP (big_lim (by omega)) (big_lim (by omega)) (big_lim (by omega))
  have KFR := Lib.hid (fun w => r02_From R w (Lib.hid (big_lim (by omega))))
  have HE : Hid ((a : Int) * (R : Nat) + b * (Y + X / (m : Int) * k) = (G : Nat) ∧ R ≤ b) := Lib.hid ⟨hf.1, by omega⟩
  have KD := Lib.hid KD
  have KM := Lib.hid KM
  have KA := Lib.hid KA
  have HZZ := Lib.hid hzz
  have HPL := Lib.hid hPl
  clear hzz hX hY hE h1 hf hQ hQn hR hpb hP hPn hZ hl hPl HL
  go_upto_region 8 with (first
    | (go_at_call 79; (with_reducible refine (KM1.out _).mono ?_); rintro e w3 ⟨rfl, hb3⟩; have HZ3 := Lib.hid (HZZ.out.next hb3); clear hb3)
    | (go_at_call 79; (with_reducible refine (KM2.out _).mono ?_); rintro e w4 ⟨rfl, hb4⟩; have HZ4 := Lib.hid (HZ3.out.next hb4); clear hb4))
  obtain ⟨c0, c1, _, _⟩ : ZI w4 P sX nX := HZ4.out.tl.hd
  have ne0 : w4.heap.size ≠ P := Nat.ne_of_gt HZ4.out.tl.hd.lt
  go_cut [17, 18] (fun a17 a18 wx => a18 = .string (B R) ∧ ∃ g, w.heap.size + 1 < g ∧ a17 = .pointer (some ⟨g, 0, none⟩) ∧ HZ w [(g, sQ, nQ), (P + 1, sY, nY), (P, sX, nX), (w.heap.size + 1, false, 0), (w.heap.size, false, 0)] wx)
  case first =>
    go_region_held3 (fun w' => w'.cell? ⟨P, 0, none⟩ = some (.bool sX) ∧ w'.cell? ⟨P, 1, none⟩ = some (.string (B nX))) (first | exact ⟨far2c c0 ne0, far2c c1 ne0⟩ | exact ⟨far2c c0 ne5, far2c c1 ne5⟩ | exact ⟨far2c c0 ne6, far2c c1 ne6⟩ | go_keep) (first
      | (go_at_call 146; (with_reducible refine (KF1.out _).mono ?_); rintro e w5 ⟨rfl, hb5⟩
         have HB5 : Hid (Below w4.heap.size w4 w5) := by first | exact Lib.hid hb5 | exact Lib.hid (((Below.refl _ w4).drew).trans hb5) | exact Lib.hid (below2 ((Below.refl _ w4).alloc (Nat.le_refl _) _) hb5) | exact Lib.hid (below2 (((Below.refl _ w4).alloc (Nat.le_refl _) _).drew) hb5) | exact Lib.hid (below2 (((Below.refl _ w4).drew).alloc (Nat.le_refl _) _) hb5)
         have c0 := (HB5.out.cell (p := ⟨P, 0, none⟩) HZ4.out.tl.hd.lt).trans HZ4.out.tl.hd.c0
         have c1 := (HB5.out.cell (p := ⟨P, 1, none⟩) HZ4.out.tl.hd.lt).trans HZ4.out.tl.hd.c1
         have ne5 : w5.heap.size ≠ P := Nat.ne_of_gt (Nat.lt_of_lt_of_le HZ4.out.tl.hd.lt HB5.out.size)
         first | (have HN5 := Lib.hid ((ZI.zero w4 101).next hb5)) | (have HN5 := Lib.hid ((ZI.zero w4 101).drew.next hb5)) | skip
         clear hb5)
      | (go_at_call 145; (with_reducible refine (KD.out _).mono ?_); rintro e w6 ⟨rfl, hb6⟩
         have HB6 : Hid (Below w4.heap.size w4 w6) := by first | exact Lib.hid (below2 HB5.out hb6) | exact Lib.hid (below2 HB5.out (((Below.refl _ w5).drew).trans hb6)) | exact Lib.hid (below2 HB5.out (below2 ((Below.refl _ w5).alloc (Nat.le_refl _) _) hb6)) | exact Lib.hid (below2 HB5.out (below2 (((Below.refl _ w5).alloc (Nat.le_refl _) _).drew) hb6))
         have c0 := (HB6.out.cell (p := ⟨P, 0, none⟩) HZ4.out.tl.hd.lt).trans HZ4.out.tl.hd.c0
         have c1 := (HB6.out.cell (p := ⟨P, 1, none⟩) HZ4.out.tl.hd.lt).trans HZ4.out.tl.hd.c1
         have ne6 : w6.heap.size ≠ P := Nat.ne_of_gt (Nat.lt_of_lt_of_le HZ4.out.tl.hd.lt HB6.out.size)
         first | (have HN6 := Lib.hid (HN5.out.next hb6); obtain ⟨m0, m1, m2, m3⟩ := HN6.out) | (have HN6 := Lib.hid (HN5.out.drew.next hb6); obtain ⟨m0, m1, m2, m3⟩ := HN6.out) | (have HN6 := Lib.hid ((ZI.zero w5 101).next hb6); obtain ⟨m0, m1, m2, m3⟩ := HN6.out) | (have HN6 := Lib.hid ((ZI.zero w5 101).drew.next hb6); obtain ⟨m0, m1, m2, m3⟩ := HN6.out) | skip
         clear hb6))
    all_goals
      go_wp2_with fail
      go_meet
      have hlo : w.heap.size + 1 < w4.heap.size := HZ4.out.tl.tl.hd.lt
      first
        | exact ⟨rfl, _, Nat.lt_of_lt_of_le hlo HB6.out.size, rfl, HZ4.out.new HB6.out _⟩
        | exact ⟨rfl, _, hlo, rfl, HZ4.out.put HB6.out HN6.out (Nat.le_refl _)⟩
        | exact ⟨rfl, _, Nat.lt_of_lt_of_le hlo HB5.out.size, rfl, HZ4.out.put HB6.out HN6.out HB5.out.size⟩
  case rest =>
  obtain ⟨rfl, g, hgl, rfl, hz5⟩ := hcut
  rename World => w7
  have HZ5 := Lib.hid hz5
  have HGL := Lib.hid hgl
  clear hz5 hgl c0 c1 ne0 HZZ HZ3 HZ4
  obtain ⟨c0, c1, _, _⟩ : ZI w7 g sQ nQ := HZ5.out.hd
  have ne0 : w7.heap.size ≠ g := Nat.ne_of_gt HZ5.out.hd.lt
  go_upto_region 9 with fail
  go_cut [20] (fun a20 wx => ∃ h, a20 = .pointer (some ⟨h, 0, none⟩) ∧ HZ w [(h, sP, nP), (g, sQ, nQ), (P + 1, sY, nY), (P, sX, nX), (w.heap.size + 1, false, 0), (w.heap.size, false, 0)] wx)
  case first =>
    go_region_held3 (fun w' => w'.cell? ⟨g, 0, none⟩ = some (.bool sQ) ∧ w'.cell? ⟨g, 1, none⟩ = some (.string (B nQ))) (first | exact ⟨far2c c0 ne0, far2c c1 ne0⟩ | exact ⟨far2c c0 ne5, far2c c1 ne5⟩ | exact ⟨far2c c0 ne6, far2c c1 ne6⟩ | go_keep) (first
      | (go_at_call 146; (with_reducible refine (KF2.out _).mono ?_); rintro e w5 ⟨rfl, hb5⟩
         have HB5 : Hid (Below w7.heap.size w7 w5) := by first | exact Lib.hid hb5 | exact Lib.hid (((Below.refl _ w7).drew).trans hb5) | exact Lib.hid (below2 ((Below.refl _ w7).alloc (Nat.le_refl _) _) hb5) | exact Lib.hid (below2 (((Below.refl _ w7).alloc (Nat.le_refl _) _).drew) hb5) | exact Lib.hid (below2 (((Below.refl _ w7).drew).alloc (Nat.le_refl _) _) hb5)
         have c0 := (HB5.out.cell (p := ⟨g, 0, none⟩) HZ5.out.hd.lt).trans HZ5.out.hd.c0
         have c1 := (HB5.out.cell (p := ⟨g, 1, none⟩) HZ5.out.hd.lt).trans HZ5.out.hd.c1
         have ne5 : w5.heap.size ≠ g := Nat.ne_of_gt (Nat.lt_of_lt_of_le HZ5.out.hd.lt HB5.out.size)
         first | (have HN5 := Lib.hid ((ZI.zero w7 101).next hb5)) | (have HN5 := Lib.hid ((ZI.zero w7 101).drew.next hb5)) | skip
         clear hb5)
      | (go_at_call 147; (with_reducible refine (KM.out _).mono ?_); rintro e w6 ⟨rfl, hb6⟩
         have HB6 : Hid (Below w7.heap.size w7 w6) := by first | exact Lib.hid (below2 HB5.out hb6) | exact Lib.hid (below2 HB5.out (((Below.refl _ w5).drew).trans hb6)) | exact Lib.hid (below2 HB5.out (below2 ((Below.refl _ w5).alloc (Nat.le_refl _) _) hb6)) | exact Lib.hid (below2 HB5.out (below2 (((Below.refl _ w5).alloc (Nat.le_refl _) _).drew) hb6))
         have c0 := (HB6.out.cell (p := ⟨g, 0, none⟩) HZ5.out.hd.lt).trans HZ5.out.hd.c0
         have c1 := (HB6.out.cell (p := ⟨g, 1, none⟩) HZ5.out.hd.lt).trans HZ5.out.hd.c1
         have ne6 : w6.heap.size ≠ g := Nat.ne_of_gt (Nat.lt_of_lt_of_le HZ5.out.hd.lt HB6.out.size)
         first | (have HN6 := Lib.hid (HN5.out.next hb6); obtain ⟨m0, m1, m2, m3⟩ := HN6.out) | (have HN6 := Lib.hid (HN5.out.drew.next hb6); obtain ⟨m0, m1, m2, m3⟩ := HN6.out) | (have HN6 := Lib.hid ((ZI.zero w5 101).next hb6); obtain ⟨m0, m1, m2, m3⟩ := HN6.out) | (have HN6 := Lib.hid ((ZI.zero w5 101).drew.next hb6); obtain ⟨m0, m1, m2, m3⟩ := HN6.out) | skip
         clear hb6))
    all_goals
      go_wp2_with fail
      go_meet
      first
        | exact ⟨_, rfl, HZ5.out.new HB6.out _⟩
        | exact ⟨_, rfl, HZ5.out.put HB6.out HN6.out (Nat.le_refl _)⟩
        | exact ⟨_, rfl, HZ5.out.put HB6.out HN6.out HB5.out.size⟩
  case rest =>
  obtain ⟨h, rfl, hz8⟩ := hcut
  rename World => w8
  have HZ8 := Lib.hid hz8
  clear hz8 c0 c1 ne0 HZ5
  obtain ⟨c0, c1, _, _⟩ : ZI w8 h sP nP := HZ8.out.hd
  obtain ⟨y0, y1, y2, y3⟩ : ZI w8 (P + 1) sY nY := HZ8.out.tl.tl.hd
  go_upto_region 10 with fail
  go_cut [21] (fun a21 wx => HZ w [(P + 1, sZ, nZ), (w.heap.size + 1, false, 0), (w.heap.size, false, 0)] wx)
  case first =>
    go_wp2_with (first
      | (go_at_call 148; (with_reducible refine (KA.out _).mono ?_); rintro e w9 ⟨rfl, hb9⟩; have HZ9 := Lib.hid (HZ8.out.next hb9); obtain ⟨y0, y1, y2, y3⟩ : ZI w9 (P + 1) sY nY := HZ9.out.tl.tl.hd; clear hb9))
    go_meet
    have hz := HZ9.out
    have hp := HPL.out
    exact (HZ.three (p := (P + 1, sY, nY)) (q := (w.heap.size + 1, false, 0)) (r := (w.heap.size, false, 0)) hz.bel hz.tl.tl.hd hz.tl.tl.tl.tl.hd hz.tl.tl.tl.tl.tl.hd (show w.heap.size ≤ P + 1 by omega) (Nat.le_succ _) (Nat.le_refl _)).over (fun p hp2 => by
      rcases List.mem_cons.1 hp2 with rfl | hp2
      · show P + 1 ≠ w.heap.size + 1; omega
      · rcases List.mem_cons.1 hp2 with rfl | hp2
        · show P + 1 ≠ w.heap.size; omega
        · cases hp2)
  case rest =>
  rename World => wA
  have HZA := Lib.hid hcut
  clear hcut c0 c1 y0 y1 y2 y3 HZ8
  obtain ⟨y0, y1, _, _⟩ : ZI wA (P + 1) sZ nZ := HZA.out.hd
  obtain ⟨s0, s1, s2, s3⟩ : ZI wA (w.heap.size + 1) false 0 := HZA.out.tl.hd
  obtain ⟨r0, r1, r2, r3⟩ : ZI wA w.heap.size false 0 := HZA.out.tl.tl.hd
  have N1 := Lib.hid (show w.heap.size ≠ P + 1 by have := HPL.out; omega)
  have N2 := Lib.hid (show w.heap.size + 1 ≠ P + 1 by have := HPL.out; omega)
  clear KZ KM1 KM2 KF1 KF2 HS KD KM KA va vb e0 HPL HGL
  go_upto_region 11 with fail
  go_region_held3 (fun w' => (w'.cell? ⟨P + 1, 0, none⟩ = some (.bool sZ) ∧ w'.cell? ⟨P + 1, 1, none⟩ = some (.string (B nZ))))
    (first
      | (with_reducible exact ⟨far2c y0 N1.out, far2c y1 N1.out⟩)
      | (with_reducible exact ⟨far2cd y0 N1.out, far2cd y1 N1.out⟩)
      | (with_reducible exact ⟨far4c y0 N1.out N2.out, far4c y1 N1.out N2.out⟩)
      | (with_reducible exact ⟨far4cd y0 N1.out N2.out, far4cd y1 N1.out N2.out⟩)
      | go_keep) (first
      | (go_at_call 146; (with_reducible refine (KFR.out _).mono ?_); rintro e wB ⟨rfl, hbB⟩
         have HBB : Hid (Below wA.heap.size wA wB) := by first | exact Lib.hid hbB | exact Lib.hid (((Below.refl _ wA).drew).trans hbB)
         have HZB := Lib.hid (HZA.out.next HBB.out)
         obtain ⟨y0, y1, _, _⟩ : ZI wB (P + 1) sZ nZ := HZB.out.hd
         obtain ⟨s0, s1, s2, s3⟩ : ZI wB (w.heap.size + 1) false 0 := HZB.out.tl.hd
         obtain ⟨r0, r1, r2, r3⟩ : ZI wB w.heap.size false 0 := HZB.out.tl.tl.hd
         clear hbB))
  all_goals
    go_wp2_with fail
    have hz3 := HZB.out
    obtain ⟨a0, a1, _, _⟩ := ((show ZI wB w.heap.size false 0 from hz3.tl.tl.hd).set (t := false) (k := R)).far2 (b := w.heap.size + 1) (v := .bool sZ) (u := .string (B nZ)) (by simp)
    obtain ⟨b0, b1, _, _⟩ := ((show ZI wB (w.heap.size + 1) false 0 from hz3.tl.hd).far2 (b := w.heap.size) (v := .bool false) (u := .string (B R)) (by simp)).set (t := sZ) (k := nZ)
    have hbel := (((hz3.bel.setCell (p := ⟨w.heap.size, 0, none⟩) (Nat.le_refl _) (.bool false)).setCell (p := ⟨w.heap.size, 1, none⟩) (Nat.le_refl _) (.string (B R))).setCell (p := ⟨w.heap.size + 1, 0, none⟩) (Nat.le_succ _) (.bool sZ)).setCell (p := ⟨w.heap.size + 1, 1, none⟩) (Nat.le_succ _) (.string (B nZ))
    exact bodyPost_ret (v := .tuple #[.string (B G), .agg #[.bool false, .string (B R)], .agg #[.bool sZ, .string (B nZ)], .int .i64 0]) (by simp [results, Tryz.results117, go_sem, a0, a1, b0, b1]) rfl ⟨⟨Y + X / (m : Int) * k, sZ, R, nZ, rfl, HE.out⟩, by first | exact hbel | exact hbel.drew⟩

theorem r02_ModZ (n m : Nat) (w : World) (hn : n < 18446744073709551616) (hm : m < 18446744073709551616) (h0 : 0 < m) :
    Calls Tryz.prog 118 #[.agg #[.bool false, .string (B n)], .string (B m)] w fun e w' => e = .returned (.tuple #[.string (B (n % m)), .int .i64 0]) ∧ Below w.heap.size w w' := by
  have vm := valid_B (u64_lt_lim hm)
  have KV := Lib.hid (r02_ValidZ false n (w.alloc (.cells #[.bool false, .string (B n)] 101)) (Lib.hid ⟨u64_lt_lim hn, rfl⟩))
  have KF := Lib.hid (fun w => r02_From m w (Lib.hid (u64_lt_lim hm)))
  have KD := Lib.hid (fun w => r02_DivMod_pos n m w hn hm h0)
  have HB0 := Lib.hid (show Below w.heap.size w (w.alloc (.cells #[.bool false, .string (B n)] 101)) from (Below.refl _ _).alloc (Nat.le_refl _) _)
  have hz0 := ZI.new w false n 101
  have HZ0 := Lib.hid hz0
  obtain ⟨Qv, hQv⟩ : ∃ Qv, Qv = n / m := ⟨_, rfl⟩
  obtain ⟨R, hR⟩ : ∃ R, R = n % m := ⟨_, rfl⟩
  rw [← hQv, ← hR] at KD
  rw [← hR]
  clear hn hm h0 hQv hR hz0
  go_enter Tryz.func118, Tryz.ntmps118
  go_upto_region 3 with (first
    | (go_at_call 149; (with_reducible refine KV.out.mono ?_); rintro e w1 ⟨rfl, hb1⟩; have HB1 := Lib.hid (below2 HB0.out hb1); have HZ1 := Lib.hid (HZ0.out.next hb1); obtain ⟨c0, c1, _, _⟩ : ZI w1 w.heap.size false n := HZ1.out; clear hb1)
    | (go_at_call 32; refine (r01_Valid _ _).mono ?_; rintro e w' ⟨rfl, rfl⟩))
  have ne0 : w1.heap.size ≠ w.heap.size := Nat.ne_of_gt HZ1.out.lt
  go_cut [7, 8] (fun a7 a8 wx => a7 = .string (B R) ∧ a8 = .int .i64 0 ∧ Below w.heap.size w wx)
  case first =>
    go_region_held3 (fun w' => w'.cell? ⟨w.heap.size, 0, none⟩ = some (.bool false) ∧ w'.cell? ⟨w.heap.size, 1, none⟩ = some (.string (B n))) (first | exact ⟨far2c c0 ne0, far2c c1 ne0⟩ | exact ⟨far2c c0 ne5, far2c c1 ne5⟩ | exact ⟨far2c c0 ne6, far2c c1 ne6⟩ | go_keep) (first
      | (go_at_call 146; (with_reducible refine (KF.out _).mono ?_); rintro e w5 ⟨rfl, hb5⟩
         have HB5 : Hid (Below w1.heap.size w1 w5) := by first | exact Lib.hid hb5 | exact Lib.hid (((Below.refl _ w1).drew).trans hb5) | exact Lib.hid (below2 ((Below.refl _ w1).alloc (Nat.le_refl _) _) hb5) | exact Lib.hid (below2 (((Below.refl _ w1).alloc (Nat.le_refl _) _).drew) hb5) | exact Lib.hid (below2 (((Below.refl _ w1).drew).alloc (Nat.le_refl _) _) hb5)
         have c0 := (HB5.out.cell (p := ⟨w.heap.size, 0, none⟩) HZ1.out.lt).trans HZ1.out.c0
         have c1 := (HB5.out.cell (p := ⟨w.heap.size, 1, none⟩) HZ1.out.lt).trans HZ1.out.c1
         have ne5 : w5.heap.size ≠ w.heap.size := Nat.ne_of_gt (Nat.lt_of_lt_of_le HZ1.out.lt HB5.out.size)
         first | (have HN5 := Lib.hid ((ZI.zero w1 101).next hb5)) | (have HN5 := Lib.hid ((ZI.zero w1 101).drew.next hb5)) | skip
         clear hb5)
      | (go_at_call 145; (with_reducible refine (KD.out _).mono ?_); rintro e w6 ⟨rfl, hb6⟩
         have HB6 : Hid (Below w1.heap.size w1 w6) := by first | exact Lib.hid (below2 HB5.out hb6) | exact Lib.hid (below2 HB5.out (((Below.refl _ w5).drew).trans hb6)) | exact Lib.hid (below2 HB5.out (below2 ((Below.refl _ w5).alloc (Nat.le_refl _) _) hb6)) | exact Lib.hid (below2 HB5.out (below2 (((Below.refl _ w5).alloc (Nat.le_refl _) _).drew) hb6))
         have c0 := (HB6.out.cell (p := ⟨w.heap.size, 0, none⟩) HZ1.out.lt).trans HZ1.out.c0
         have c1 := (HB6.out.cell (p := ⟨w.heap.size, 1, none⟩) HZ1.out.lt).trans HZ1.out.c1
         have ne6 : w6.heap.size ≠ w.heap.size := Nat.ne_of_gt (Nat.lt_of_lt_of_le HZ1.out.lt HB6.out.size)
         first | (have HN6 := Lib.hid (HN5.out.next hb6); obtain ⟨m0, m1, m2, m3⟩ := HN6.out) | (have HN6 := Lib.hid (HN5.out.drew.next hb6); obtain ⟨m0, m1, m2, m3⟩ := HN6.out) | (have HN6 := Lib.hid ((ZI.zero w5 101).next hb6); obtain ⟨m0, m1, m2, m3⟩ := HN6.out) | (have HN6 := Lib.hid ((ZI.zero w5 101).drew.next hb6); obtain ⟨m0, m1, m2, m3⟩ := HN6.out) | skip
         clear hb6))
    all_goals
      go_wp2_with fail
      go_meet
      have hlo : w.heap.size ≤ w1.heap.size := Nat.le_of_lt HZ1.out.lt
      have hb := HB6.out
      have hz6 := hb.size
      have hz5 := HB5.out.size
      refine ⟨rfl, rfl, Below.trans HB1.out ?_⟩
      first
        | exact (hb.mono hlo).alloc (by omega) _
        | exact ((hb.mono hlo).setCell (p := ⟨w1.heap.size, 0, none⟩) (by simpa using hlo) _).setCell (p := ⟨w1.heap.size, 1, none⟩) (by simpa using hlo) _
        | exact ((hb.mono hlo).setCell (p := ⟨w5.heap.size, 0, none⟩) (by show w.heap.size ≤ w5.heap.size; omega) _).setCell (p := ⟨w5.heap.size, 1, none⟩) (by show w.heap.size ≤ w5.heap.size; omega) _
  case rest =>
  obtain ⟨rfl, rfl, hb⟩ := hcut
  have HB := Lib.hid hb
  clear hb c0 c1 ne0
  go_wp2_with fail
  go_ret2
  exact ⟨rfl, HB.out⟩
theorem r03_check2 (a m : Nat) (T : TypeId) (w : World) (ha : a < lim) (hm : m < lim) (h0 : m ≠ 0) :
    Calls Tryz.prog 113 #[.slice (some ⟨w.heap.size, 0, none⟩) 2 2] (w.alloc (.cells #[.string (B a), .string (B m)] T)) fun e w' => e = .returned (.int .i64 0) ∧ (w.alloc (.cells #[.string (B a), .string (B m)] T)) = w' :=
  r03_check [B a, B m] 2 w.heap.size _ rfl (by decide) (by decide) (SRow.new w T [B a, B m]) (fun j hj => by
    match j, hj with
    | 0, _ => exact valid_B ha
    | 1, _ => exact valid_B hm) (B_isEmpty_false h0)
theorem r03_Inverse (s q : Nat) (w : World) (hs : s < 18446744073709551616) (hq : q < 18446744073709551616) (h2 : 2 ≤ q) :
    Calls Tryz.prog 83 #[.string (B s), .string (B q)] w fun e w' => (∃ er : Int, e = .returned (.tuple #[.string (B (invM s q)), .int .i64 er])) ∧ Below w.heap.size w w' := by
  have HCK := Lib.hid (fun T => r03_check2 s q T w (u64_lt_lim hs) (u64_lt_lim hq) (by omega))
  have HB0 := Lib.hid (fun (T : TypeId) => (Below.refl w.heap.size w).alloc (Nat.le_refl _) (.cells #[.string (B s), .string (B q)] T))
  have K1 := Lib.hid (fun w => r03_Mod s q w (u64_lt_lim hs) (u64_lt_lim hq) (by omega))
  have K2 := Lib.hid (fun w => r02_Extended (s % q) q w (Nat.lt_trans (Nat.mod_lt _ (by omega)) hq) hq (by omega))
  have HI : ∀ (X : Nat) (Y : Int), ((s % q : Nat) : Int) * X + q * Y = 1 → invM s q = X % q := fun X Y h => invM_ext h2 (Int.natCast_nonneg X) h
  have HNI := Lib.hid (@invM_none s q h2)
  have KO := Lib.hid (fun w => r01_Of' 1 1 w rfl (by decide))
  generalize s % q = a at K1 K2 HI HNI
  have HI := Lib.hid HI
  have HQ := Lib.hid (And.intro hq h2)
  generalize hG : Nat.gcd a q = g at K2 HNI
  by_cases hg : g = 1
  · subst hg
    clear hs hq h2 hG HNI
    go_enter Tryz.func83, Tryz.ntmps83
    go_wp2_with (first
      | (go_at_call 113; (with_reducible refine (HCK.out _).mono ?_); rintro e w1 ⟨rfl, rfl⟩)
      | (go_at_call 57; (with_reducible refine (K1.out _).mono ?_); rintro e w2 ⟨rfl, hb2⟩; have HB2 := Lib.hid (below2 (HB0.out _) hb2); clear hb2)
      | (go_at_call 117; (with_reducible refine (K2.out _).mono ?_); rintro e w3 ⟨⟨Y, sY, nX, nY, rfl, hE, hXb⟩, hb3⟩
         have HB3 := Lib.hid (below2 HB2.out hb3)
         have HR := Lib.hid (HI.out nX Y (by rw [hE]; rfl))
         have K3 := Lib.hid (fun w => r02_ModZ nX q w (Nat.lt_of_le_of_lt hXb HQ.out.1) HQ.out.1 (by have := HQ.out.2; omega))
         rw [← HR.out] at K3
         clear hb3 hE hXb)
      | (go_at_call 24; (with_reducible refine (KO.out _).mono ?_); rintro e w5 ⟨rfl, hb5⟩
         have HB5 := Lib.hid (below2 ((HB3.out.alloc HB3.out.size _).alloc (by have := HB3.out.size; simp; omega) _) hb5)
         obtain ⟨c0, c1, _, _⟩ : ZI w5 w3.heap.size false nX := ((ZI.new w3 false nX 101).alloc _).next hb5
         clear hb5)
      | (go_at_call 118; (with_reducible refine (K3.out _).mono ?_); rintro e w4 ⟨rfl, hb4⟩; have HB4 := Lib.hid (below2 HB5.out hb4); clear hb4))
    go_ret2
    exact ⟨⟨0, rfl⟩, HB4.out⟩
  · rw [HNI.out hg]
    have e1 : ((B g).toList == (B 1).toList) = false := by rw [B_beq]; exact decide_eq_false hg
    clear hs hq h2 hG HNI hg HI
    go_enter Tryz.func83, Tryz.ntmps83
    go_wp2_with (first
      | (go_at_call 113; (with_reducible refine (HCK.out _).mono ?_); rintro e w1 ⟨rfl, rfl⟩)
      | (go_at_call 57; (with_reducible refine (K1.out _).mono ?_); rintro e w2 ⟨rfl, hb2⟩; have HB2 := Lib.hid (below2 (HB0.out _) hb2); clear hb2)
      | (go_at_call 117; (with_reducible refine (K2.out _).mono ?_); rintro e w3 ⟨⟨Y, sY, nX, nY, rfl, hE, hXb⟩, hb3⟩
         have HB3 := Lib.hid (below2 HB2.out hb3)
         clear hb3 hE hXb)
      | (go_at_call 24; (with_reducible refine (KO.out _).mono ?_); rintro e w5 ⟨rfl, hb5⟩
         have HB5 := Lib.hid (below2 ((HB3.out.alloc HB3.out.size _).alloc (by have := HB3.out.size; simp; omega) _) hb5)
         clear hb5))
    go_ret2
    exact ⟨⟨9, rfl⟩, HB5.out⟩

end Go.Proofs.YtapplggboepfaaaGreatDoor
