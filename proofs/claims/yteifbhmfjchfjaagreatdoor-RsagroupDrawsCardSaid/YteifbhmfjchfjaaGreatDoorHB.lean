/- The walks of the reference's package 05 (SHA-256): compress. -/
import Derived.Test.YteifbhmfjchfjaaGreatDoorHA
import Derived.Deep.DeepCutAuto
import Derived.Deep.CutBlock
namespace Go.Proofs.YteifbhmfjchfjaaGreatDoor
open Go.RowKit
set_option maxRecDepth 100000
set_option linter.unusedVariables false
set_option maxHeartbeats 4000000

/-- Eight words that lie at the start of a row of the call's own. -/
structure W8 (w : World) (g : Nat) (V : List Nat) : Prop where
  len : V.length = 8
  at_ : ∀ j, j < 8 → w.cell? ⟨g, j, none⟩ = some (.int .u32 (V.getD j 0 : Nat))
theorem W8.of {w : World} {g : Nat} {T : TypeId} {V : List Nat} (h : C32 w g T V) (hl : V.length = 8) : W8 w g V := ⟨hl, fun j hj => h.cell (by omega)⟩
/-- What stands while a block is pressed in. -/
structure CpAt (w : World) (gs g5 g6 g : Nat) (S ws V : List Nat) (wr : World) : Prop where
  st : C32 wr gs 257 S
  sc : C32 wr g5 257 ws
  cn : C32 wr g6 257 consts
  v : W8 wr g V
  bel : Below w.heap.size w wr
theorem CpAt.next {w wr wq : World} {gs g5 g6 g : Nat} {S ws V : List Nat} (h : CpAt w gs g5 g6 g S ws V wr) (hb : Below wr.heap.size wr wq) : CpAt w gs g5 g6 g S ws V wq :=
  ⟨h.st.below hb h.st.lt, h.sc.below hb h.sc.lt, h.cn.below hb h.cn.lt, ⟨h.v.len, fun j hj => by
    have hc := h.v.at_ j hj
    have hlt : g < wr.heap.size := World.block_lt_of_cell? wr ⟨g, j, none⟩ hc
    exact (hb.cell (p := ⟨g, j, none⟩) hlt).trans hc⟩, h.bel.trans (hb.mono h.bel.size)⟩
theorem CpAt.drew {w wr : World} {gs g5 g6 g : Nat} {S ws V : List Nat} (h : CpAt w gs g5 g6 g S ws V wr) : CpAt w gs g5 g6 g S ws V wr.drew := h.next (Below.refl _ _).drew
theorem CpAt.three {w wr : World} {gs g5 g6 g k Kk Wk h d : Nat} {S ws V : List Nat} (hc : CpAt w gs g5 g6 g S ws V wr) (hk : consts.getD k 0 = Kk ∧ ws.getD k 0 = Wk ∧ V.getD 7 0 = h ∧ V.getD 3 0 = d ∧ k < 64 ∧ ws.length = 64) :
    wr.cell? ⟨g, 7, none⟩ = some (.int .u32 h) ∧ wr.cell? ⟨g6, k, none⟩ = some (.int .u32 Kk) ∧ wr.cell? ⟨g5, k, none⟩ = some (.int .u32 Wk) := by
  obtain ⟨h1, h2, h3, h4, h5, h6⟩ := hk
  refine ⟨?_, ?_, ?_⟩
  · rw [hc.v.at_ 7 (by decide), h3]
  · rw [hc.cn.cell (k := k) (by exact h5), h1]
  · rw [hc.sc.cell (k := k) (by omega), h2]
theorem CpAt.turn {w wr : World} {gs g5 g6 g : Nat} {S ws V V' : List Nat} (h : CpAt w gs g5 g6 g S ws V wr) (hl : V'.length = 8) : CpAt w gs g5 g6 wr.heap.size S ws V' (wr.alloc (.cells (u32Cells V') 257)) :=
  ⟨h.st.alloc _, h.sc.alloc _, h.cn.alloc _, W8.of (C32.new _ _ _) hl, h.bel.alloc h.bel.size _⟩
theorem r05_compress (gs : Nat) (S : List Nat) (s : ByteArray) (w : World) (hs : s.size = 64) (hS : C32 w gs 257 S) (hl : S.length = 8) (hlt : ∀ x ∈ S, x < 4294967296) :
    Calls Tryz.prog 299 #[.slice (some ⟨gs, 0, none⟩) 8 8, .string s] w fun e w' => (∃ g, e = .returned (.slice (some ⟨g, 0, none⟩) 8 8) ∧ C32 w' g 257 (after S s.data.toList) ∧ w.heap.size ≤ g) ∧ Below w.heap.size w w' := by
  have KS := Lib.hid (fun w => r05_schedule s w hs)
  obtain ⟨s0, s1, s2, s3, s4, s5, s6, s7, hSe⟩ := eight S hl
  have HS := Lib.hid hS
  have HLT := Lib.hid hlt
  have HL := Lib.hid hl
  have HSE := Lib.hid hSe
  have hgs := hS.lt
  clear hS hlt hl hSe
  go_enter Tryz.func299, Tryz.ntmps299
  go_wp2_with (first
    | (go_at_call 305; (with_reducible refine (KS.out _).mono ?_); rintro e w1 ⟨⟨g5, rfl, hc5, hg5⟩, hb1⟩; have HC5 := Lib.hid hc5; have HS1 := Lib.hid (HS.out.below hb1 hgs); have HB1 := Lib.hid hb1; have HG5 := Lib.hid hg5; clear hc5 hg5 hb1)
    | (go_at_call 306; (with_reducible refine (r05_constants _).mono ?_); rintro e w2 ⟨⟨g6, rfl, hc6, hg6⟩, hb2⟩
       have HC6 := Lib.hid hc6
       have HS2 := Lib.hid (HS1.out.below hb2 HS1.out.lt)
       have HC5 := Lib.hid (HC5.out.below hb2 HC5.out.lt)
       have HB2 := Lib.hid (HB1.out.trans (hb2.mono HB1.out.size))
       have y := HS2.out
       rw [HSE.out] at y
       have y0 := y.cell (k := 0) (by simp)
       have y1 := y.cell (k := 1) (by simp)
       have y2 := y.cell (k := 2) (by simp)
       have y3 := y.cell (k := 3) (by simp)
       have y4 := y.cell (k := 4) (by simp)
       have y5 := y.cell (k := 5) (by simp)
       have y6 := y.cell (k := 6) (by simp)
       have y7 := y.cell (k := 7) (by simp)
       have hl2 : gs < w2.heap.size := HS2.out.lt
       clear hc6 hg6 hb2 y))
  obtain ⟨ws, hws⟩ : ∃ ws, ws = sched s.data.toList := ⟨_, rfl⟩
  rw [← hws] at HC5
  have HWS := Lib.hid hws
  obtain ⟨cp, hcp⟩ : ∃ cp, cp = (Question.appendCap 8 0 257).cut (w2.tape w2.drawn (Question.appendCap 8 0 257)) := ⟨_, rfl⟩
  rw [← hcp]
  have hw8 : W8 ((w2.alloc (.cells #[] 257)).alloc (.cells (#[.int .u32 s0, .int .u32 s1, .int .u32 s2, .int .u32 s3, .int .u32 s4, .int .u32 s5, .int .u32 s6, .int .u32 s7] ++ Builtin.zeroCells #[.int .u32 0] (cp - 8)) 257)).drew (w2.heap.size + 1) S := by
    refine ⟨HL.out, fun j hj => ?_⟩
    rw [HSE.out]
    have hh : ((w2.alloc (.cells #[] 257)).alloc (.cells (#[.int .u32 s0, .int .u32 s1, .int .u32 s2, .int .u32 s3, .int .u32 s4, .int .u32 s5, .int .u32 s6, .int .u32 s7] ++ Builtin.zeroCells #[.int .u32 0] (cp - 8)) 257)).drew.heap[w2.heap.size + 1]? = some (.cells (#[.int .u32 s0, .int .u32 s1, .int .u32 s2, .int .u32 s3, .int .u32 s4, .int .u32 s5, .int .u32 s6, .int .u32 s7] ++ Builtin.zeroCells #[.int .u32 0] (cp - 8)) 257 (0, 0)) := heap_alloc2_new w2 _ _
    simp only [World.cell?, hh]
    rw [Array.getElem?_append_left (by simp; omega)]
    match j, hj with
    | 0, _ | 1, _ | 2, _ | 3, _ | 4, _ | 5, _ | 6, _ | 7, _ => rfl
  have hb7 : Below w2.heap.size w2 ((w2.alloc (.cells #[] 257)).alloc (.cells (#[.int .u32 s0, .int .u32 s1, .int .u32 s2, .int .u32 s3, .int .u32 s4, .int .u32 s5, .int .u32 s6, .int .u32 s7] ++ Builtin.zeroCells #[.int .u32 0] (cp - 8)) 257)).drew := (((Below.refl _ _).alloc (Nat.le_refl _) _).alloc (by simp) _).drew
  have HQ0 := Lib.hid (show CpAt w gs g5 g6 (w2.heap.size + 1) S ws S _ from ⟨HS2.out.below hb7 HS2.out.lt, HC5.out.below hb7 HC5.out.lt, HC6.out.below hb7 HC6.out.lt, hw8, HB2.out.trans (hb7.mono HB2.out.size)⟩)
  have HGE := Lib.hid (show w.heap.size ≤ w2.heap.size + 1 from Nat.le_succ_of_le HB2.out.size)
  have HWL := Lib.hid (fun k => (by rw [hws]; exact sched_lt s.data.toList k : ws.getD k 0 < 4294967296))
  have HWN := Lib.hid (by rw [hws]; exact sched_len s.data.toList : ws.length = 64)
  clear hws hcp hw8 hb7 y0 y1 y2 y3 y4 y5 y6 y7 HS HS1 HS2 HC5 HC6 HB1 HB2 HG5 KS
  go_loopw [7, 8] (fun v7 v8 wr => ∃ k g c : Nat, v7 = .slice (some ⟨g, 0, none⟩) 8 c ∧ v8 = .int .i64 k ∧ k ≤ 64 ∧ w.heap.size ≤ g ∧ (0 < k → c = 8 ∧ C32 wr g 257 (roundsF S ws k)) ∧ CpAt w gs g5 g6 g S ws (roundsF S ws k) wr) (fun _ v _ => 64 - (intOf v).toNat)
  case atStart => exact ⟨0, _, _, rfl, rfl, by decide, HGE.out, fun h => absurd h (Nat.lt_irrefl 0), HQ0.out⟩
  case round =>
    clear HQ0 HGE
    obtain ⟨k, g, c, rfl, rfl, hk, hge, hlast, hq⟩ := hrel
    have HQ := Lib.hid hq
    have HLA := Lib.hid hlast
    have HGE := Lib.hid hge
    clear hlast hge hq
    by_cases hlt : k < 64
    · have k1 : decide ((k : Int) < 64) = true := decide_eq_true (by omega)
      have HLK := Lib.hid hlt
      obtain ⟨V, hV⟩ : ∃ V, V = roundsF S ws k := ⟨_, rfl⟩
      rw [← hV] at HQ
      have hVl : ∀ x ∈ V, x < 4294967296 := by rw [hV]; exact roundsF_lt S ws HLT.out k
      obtain ⟨a, b, cc, d, e, f, gg, h, hVe⟩ := eight V HQ.out.v.len
      have hlts := hVl
      rw [hVe] at hlts
      obtain ⟨la, lb, lc, ld, le, lf, lg, lh⟩ := eight_lt hlts
      have LA := Lib.hid la
      have LB := Lib.hid lb
      have LC := Lib.hid lc
      have LE := Lib.hid le
      have LF := Lib.hid lf
      have LG := Lib.hid lg
      have HVE := Lib.hid hVe
      have HV := Lib.hid hV
      have c0 := HQ.out.v.at_ 0 (by decide)
      have c1 := HQ.out.v.at_ 1 (by decide)
      have c2 := HQ.out.v.at_ 2 (by decide)
      have c4 := HQ.out.v.at_ 4 (by decide)
      have c5 := HQ.out.v.at_ 5 (by decide)
      have c6 := HQ.out.v.at_ 6 (by decide)
      rw [hVe] at c0 c1 c2 c4 c5 c6
      simp only [List.getD_cons_zero, List.getD_cons_succ] at c0 c1 c2 c4 c5 c6
      obtain ⟨Kk, hKk⟩ : ∃ x, x = consts.getD k 0 := ⟨_, rfl⟩
      obtain ⟨Wk, hWk⟩ : ∃ x, x = ws.getD k 0 := ⟨_, rfl⟩
      have HKW : Hid (consts.getD k 0 = Kk ∧ ws.getD k 0 = Wk ∧ V.getD 7 0 = h ∧ V.getD 3 0 = d ∧ k < 64 ∧ ws.length = 64) := Lib.hid ⟨hKk.symm, hWk.symm, by rw [hVe]; rfl, by rw [hVe]; rfl, hlt, HWN.out⟩
      obtain ⟨tN, htN⟩ : ∃ t, t = add32 (add32 (add32 (add32 h (xor3 e 6 11 25)) (xor32 (and32 e f) (and32 (not32 e) gg))) Kk) Wk := ⟨_, rfl⟩
      obtain ⟨uN, huN⟩ : ∃ u, u = add32 (xor3 a 2 13 22) (xor32 (xor32 (and32 a b) (and32 a cc)) (and32 b cc)) := ⟨_, rfl⟩
      have HRF : Hid (roundsF S ws (k + 1) = [add32 tN uN, a, b, cc, add32 d tN, e, f, gg]) := Lib.hid (by
        show roundF (roundsF S ws k) (consts.getD k 0) (ws.getD k 0) = _
        rw [← hV, ← hKk, ← hWk, hVe, htN, huN]
        rfl)
      have HT := Lib.hid htN
      have HU := Lib.hid huN
      have p0 : (0 : Int) ≤ (k : Int) := by omega
      have p64 : (k : Int) < 64 := by omega
      have E6 := Lib.hid (fun w => r05_rightL e 6 6 w rfl le (by decide) (by decide))
      have E11 := Lib.hid (fun w => r05_rightL e 11 11 w rfl le (by decide) (by decide))
      have E25 := Lib.hid (fun w => r05_rightL e 25 25 w rfl le (by decide) (by decide))
      have A2 := Lib.hid (fun w => r05_rightL a 2 2 w rfl la (by decide) (by decide))
      have A13 := Lib.hid (fun w => r05_rightL a 13 13 w rfl la (by decide) (by decide))
      have A22 := Lib.hid (fun w => r05_rightL a 22 22 w rfl la (by decide) (by decide))
      clear hVl hlts la lb lc ld le lf lg lh hVe hV hKk hWk htN huN hlt hk HLA
      go_wp2_with fail
      go_region_held3 (fun w' => w'.cell? ⟨g, 0, none⟩ = some (.int .u32 a) ∧ w'.cell? ⟨g, 1, none⟩ = some (.int .u32 b) ∧ w'.cell? ⟨g, 2, none⟩ = some (.int .u32 cc) ∧ w'.cell? ⟨g, 4, none⟩ = some (.int .u32 e) ∧ w'.cell? ⟨g, 5, none⟩ = some (.int .u32 f) ∧ w'.cell? ⟨g, 6, none⟩ = some (.int .u32 gg)) (first | go_keep) (first | fail)
      clear c0 c1 c2 c4 c5 c6
      have HQd := Lib.hid HQ.out.drew
      obtain ⟨c7, ck, cw⟩ := HQd.out.three HKW.out
      go_upto_region 7 with fail
      go_cut [15] (fun v wx => v = .int .u32 (tN : Nat) ∧ CpAt w gs g5 g6 g S ws V wx)
      case first =>
        as_aux_lemma =>
        go_region_held3 (fun w' => w'.cell? ⟨g, 7, none⟩ = some (.int .u32 h) ∧ w'.cell? ⟨g6, k, none⟩ = some (.int .u32 Kk) ∧ w'.cell? ⟨g5, k, none⟩ = some (.int .u32 Wk)) (first | go_keep) (first
          | (go_at_call 307; (with_reducible refine (E6.out _).mono ?_); rintro e w5 ⟨rfl, hb5⟩; have HQ5 : Hid (CpAt w gs g5 g6 g S ws V w5) := (by first | exact Lib.hid (HQd.out.next hb5) | exact Lib.hid (HQd.out.drew.next hb5)); obtain ⟨c7, ck, cw⟩ := HQ5.out.three HKW.out; clear hb5)
          | (go_at_call 307; (with_reducible refine (E11.out _).mono ?_); rintro e w6 ⟨rfl, hb6⟩; have HQ6 : Hid (CpAt w gs g5 g6 g S ws V w6) := (by first | exact Lib.hid (HQ5.out.next hb6) | exact Lib.hid (HQ5.out.drew.next hb6)); obtain ⟨c7, ck, cw⟩ := HQ6.out.three HKW.out; clear hb6)
          | (go_at_call 307; (with_reducible refine (E25.out _).mono ?_); rintro e w7 ⟨rfl, hb7⟩; have HQ7 : Hid (CpAt w gs g5 g6 g S ws V w7) := (by first | exact Lib.hid (HQ6.out.next hb7) | exact Lib.hid (HQ6.out.drew.next hb7)); obtain ⟨c7, ck, cw⟩ := HQ7.out.three HKW.out; clear hb7))
        all_goals
          go_wp2_with fail
          go_meet
          exact ⟨by rw [HT.out, ← round_t e f gg _ Kk Wk LE.out LF.out LG.out], by first | exact HQ7.out | exact HQ7.out.drew⟩
      case rest =>
        obtain ⟨rfl, hq7⟩ := hcut
        have HQ7 := Lib.hid hq7
        clear hq7 c7 ck cw HQd HQ E6 E11 E25
        go_upto_region 8 with fail
        go_cut [16] (fun v wx => v = .int .u32 (uN : Nat) ∧ CpAt w gs g5 g6 g S ws V wx)
        case first =>
          as_aux_lemma =>
          go_wp2_with (first
            | (go_at_call 307; (with_reducible refine (A2.out _).mono ?_); rintro e w8 ⟨rfl, hb8⟩; have HQ8 := Lib.hid (HQ7.out.next hb8); clear hb8)
            | (go_at_call 307; (with_reducible refine (A13.out _).mono ?_); rintro e w9 ⟨rfl, hb9⟩; have HQ9 := Lib.hid (HQ8.out.next hb9); clear hb9)
            | (go_at_call 307; (with_reducible refine (A22.out _).mono ?_); rintro e w10 ⟨rfl, hb10⟩; have HQ10 := Lib.hid (HQ9.out.next hb10); clear hb10))
          go_meet
          exact ⟨by rw [HU.out, ← round_u a b cc LA.out LB.out LC.out], HQ10.out⟩
        case rest =>
          obtain ⟨rfl, hq8⟩ := hcut
          have HQ8 := Lib.hid hq8
          have c3 := hq8.v.at_ 3 (by decide)
          rw [HKW.out.2.2.2.1] at c3
          clear hq8 HQ7 A2 A13 A22
          go_wp2_with fail
          have e1 := wrap_add32 tN uN
          have e2 := wrap_add32 d tN
          rw [e1, e2]
          have hcells : (#[.int .u32 ((add32 tN uN : Nat) : Int), .int .u32 (a : Nat), .int .u32 (b : Nat), .int .u32 (cc : Nat), .int .u32 ((add32 d tN : Nat) : Int), .int .u32 (e : Nat), .int .u32 (f : Nat), .int .u32 (gg : Nat)] : Array Value) = u32Cells (roundsF S ws (k + 1)) := by rw [HRF.out]; rfl
          rw [hcells]
          refine ⟨⟨k + 1, wc.heap.size, 8, rfl, rfl, HLK.out, HQ8.out.bel.size, fun _ => ⟨rfl, C32.new _ _ _⟩, HQ8.out.turn (roundsF_len S ws HL.out (k + 1))⟩, ?_⟩
          have := HLK.out
          show 64 - ((k : Int) + 1).toNat < 64 - (k : Int).toNat
          omega
    · obtain rfl : k = 64 := by omega
      obtain ⟨rfl, hcx⟩ := HLA.out (by decide)
      obtain ⟨X, hX⟩ : ∃ X, X = roundsF S ws 64 := ⟨_, rfl⟩
      rw [← hX] at hcx HQ
      have hXl : X.length = 8 := HQ.out.v.len
      obtain ⟨x0, x1, x2, x3, x4, x5, x6, x7, hXe⟩ := eight X hXl
      have HM0 : Hid (C32 wr g 257 (mixW X S 0)) := Lib.hid (by rw [hXe, mixW_zero, ← hXe]; exact hcx)
      have HST := Lib.hid HQ.out.st
      have HBE := Lib.hid HQ.out.bel
      have hne : ¬ g = gs := by have := HGE.out; omega
      have HXE := Lib.hid hX
      have HLAST : Hid (mixW X S 8 = after S s.data.toList) := Lib.hid (mixW_last X S s.data.toList (by rw [hX, HWS.out]))
      clear hcx hX hXl hXe HQ HLA HWL HWN hlt hk
      go_wp2_with fail
      rw [show ((64 : Nat) : Int) = 64 from rfl]
      go_loopw [17] (fun v wq => ∃ j : Nat, v = .int .i64 j ∧ j ≤ 8 ∧ C32 wq g 257 (mixW X S j) ∧ C32 wq gs 257 S ∧ Below w.heap.size w wq) (fun v _ => 8 - (intOf v).toNat)
      case atStart => exact ⟨0, rfl, by decide, HM0.out, HST.out, HBE.out⟩
      case round =>
        clear HM0 HST HBE
        obtain ⟨j, rfl, hj, hcm, hcs, hbe⟩ := hrel
        have HCM := Lib.hid hcm
        have HCS := Lib.hid hcs
        have HBE := Lib.hid hbe
        by_cases hlt : j < 8
        · have cm := hcm.cell (k := j) (by rw [mixW_len]; exact hlt)
          have fm := hcm.free j
          have cs := hcs.cell (k := j) (by rw [HL.out]; exact hlt)
          rw [mixW_at X S hlt] at cm
          obtain ⟨xj, hxj⟩ : ∃ x, x = X.getD j 0 := ⟨_, rfl⟩
          obtain ⟨sj, hsj⟩ : ∃ x, x = S.getD j 0 := ⟨_, rfl⟩
          rw [← hxj] at cm
          rw [← hsj] at cs
          have HSTEP : Hid ((mixW X S j).set j (add32 xj sj) = mixW X S (j + 1)) := Lib.hid (by rw [hxj, hsj]; exact mixW_step X S hlt)
          have HLJ := Lib.hid hlt
          have p0 : (0 : Int) ≤ (j : Int) := by omega
          have p8 : (j : Int) < 8 := by omega
          have hge := HGE.out
          clear hcm hcs hbe hxj hsj hlt hj
          go_wp2_with fail
          go_region_law (fail)
          all_goals
            go_wp2_with fail
            go_roundw
            case rel =>
              refine ⟨j + 1, by go_num, HLJ.out, ?_, HCS.out.far (fun e => hne e.symm) _, (HBE.out.setCell (p := ⟨g, j, none⟩) HGE.out _).drew⟩
              rw [← HSTEP.out, wrap_add32]
              exact HCM.out.set j _
            case measure => have := HLJ.out; show 8 - ((j : Int) + 1).toNat < 8 - (j : Int).toNat; omega
        · obtain rfl : j = 8 := by omega
          rw [HLAST.out] at hcm
          have HF := Lib.hid hcm
          clear hcm hcs hbe hlt hj
          go_wp2_with fail
          go_ret
          exact ⟨⟨g, rfl, HF.out, HGE.out⟩, HBE.out⟩

end Go.Proofs.YteifbhmfjchfjaaGreatDoor
