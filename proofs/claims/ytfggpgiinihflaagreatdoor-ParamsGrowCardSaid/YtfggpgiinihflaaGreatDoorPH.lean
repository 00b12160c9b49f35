/- The law ParamsGrow: it returns true for all parameters and every growth. -/
import Derived.Test.YtfggpgiinihflaaGreatDoorPE
namespace Go.Proofs.YtfggpgiinihflaaGreatDoor
open Go.RowKit
set_option maxRecDepth 100000
set_option linter.unusedVariables false
set_option maxHeartbeats 4000000

/-- Two structs of parameters: the one that was handed in, and the one that is turned. -/
structure GwAt (w : World) (cs : Array Value) (gq : Nat) (qs : Array Value) (wx : World) : Prop where
  par : BoxPar w wx cs
  q : wx.heap[gq]? = some (.cells qs 53 (0, 0))
  lt : w.heap.size < gq
theorem GwAt.next {w wx wy : World} {cs qs : Array Value} {gq : Nat} (h : GwAt w cs gq qs wx) (hb : Below wx.heap.size wx wy) : GwAt w cs gq qs wy :=
  ⟨h.par.next hb, (hb.block _ (Array.getElem?_eq_some_iff.1 h.q).1).trans h.q, h.lt⟩
theorem GwAt.put {w wx : World} {cs qs : Array Value} {gq : Nat} (h : GwAt w cs gq qs wx) (k : Nat) (v : Value) : GwAt w cs gq (qs.setIfInBounds k v) (wx.setCell ⟨gq, k, none⟩ v) := by
  have ne : w.heap.size ≠ gq := Nat.ne_of_lt h.lt
  refine ⟨⟨(Below.heap_setCell wx ⟨gq, k, none⟩ v _ ne).trans h.par.blk, h.par.bel.setCell (p := ⟨gq, k, none⟩) (Nat.le_of_lt h.lt) v⟩, ?_, h.lt⟩
  have hq := h.q
  simp [World.setCell, Array.getElem?_modify, hq, Array.setIfInBounds]
theorem GwAt.qcell {w wx : World} {cs qs : Array Value} {gq : Nat} (h : GwAt w cs gq qs wx) (k : Nat) : wx.cell? ⟨gq, k, none⟩ = qs[k]? := by
  simp [World.cell?, h.q]
theorem GwAt.there {w wx : World} {cs qs : Array Value} {gq : Nat} (h : GwAt w cs gq qs wx) {k : Nat} (hk : k < qs.size) : (∃ u, wx.cell? ⟨gq, k, none⟩ = some u) ∧ wx.frozen? ⟨gq, k, none⟩ = false := by
  refine ⟨⟨qs[k], ?_⟩, ?_⟩
  · simp [World.cell?, h.q, hk]
  · simp [World.frozen?, h.q]
/-- Greater bounds leave parameters valid. -/
theorem grow_par {ch sl mm mo mg mh wm wo wg wh se at_ ha el es bl ma : ByteArray} {y : Nat} (h : parS ch sl mm mo mg mh wm wo wg wh se at_ ha el es bl ma = 0) (h1 : num ha + y < lim) (h2 : num el + y < lim) (h4 : num bl + y < lim) (h5 : num ma + y < lim) :
    parS ch sl mm mo mg mh wm wo wg wh se at_ (B (num ha + y)) (B (num el + y)) es (B (num bl + y)) (B (num ma + y)) = 0 := by
  obtain ⟨a, b, c, d⟩ := parS_zero h
  refine parS_ok ?_ b ?_ d
  · simp only [List.all_cons, List.all_nil, Bool.and_true, Bool.and_eq_true] at a ⊢
    obtain ⟨a0, a1, a2, a3, a4, a5, a6, a7, a8, a9⟩ := a
    exact ⟨a0, a1, a2, a3, valid_B h1, valid_B h2, a6, valid_B h4, valid_B h5, a9⟩
  · unfold twoUp at c ⊢
    simp only [List.all_cons, List.all_nil, Bool.and_true, Bool.and_eq_true, decide_eq_true_eq, num_B] at c ⊢
    omega
theorem law_grow (ch sl mm mo mg mh wm wo wg wh se at_ ha el es bl ma : ByteArray) (y : Nat) (w : World) (hy : y < 65536) (hT : Tab w) (hT10 : Tab10 w) :
    Calls Tryz.prog 6 #[.agg #[.string ch, .string sl, .string mm, .string mo, .string mg, .string mh, .string wm, .string wo, .string wg, .string wh, .string se, .string at_, .string ha, .string el, .string es, .string bl, .string ma], .int .u16 y] w fun e w' => e = .returned (.bool true) ∧ Below w.heap.size w w' := by
  have KAW := Lib.hid (fun wq (h1 : Below w.heap.size w wq) => law11_awake wq (hT.below h1) (hT10.below h1))
  have HP0 := Lib.hid (BoxPar.start w #[.string ch, .string sl, .string mm, .string mo, .string mg, .string mh, .string wm, .string wo, .string wg, .string wh, .string se, .string at_, .string ha, .string el, .string es, .string bl, .string ma])
  have KSH := Lib.hid (fun wq => law11_Short ch sl mm mo mg mh wm wo wg wh se at_ ha el es bl ma wq)
  cases hsh : shortS [ch, sl, mm, mo, mg, mh, wm, wo, wg, wh, se, at_, ha, el, es, bl, ma]
  · rw [hsh] at KSH
    clear hT hT10 hsh hy
    go_enter Tryz.func6, Tryz.ntmps6
    go_wp2_with (first
      | (refine wpList_load_row rfl 53 _ rfl w.heap.size rfl _ _ _ _ (heap_alloc_new w _) Tryz.underlying53 rfl (info17.trans rfl) ?_)
      | (go_at_call 19; (with_reducible refine (KSH.out _).mono ?_); rintro e w1 ⟨rfl, hb1⟩; have HP1 := Lib.hid (HP0.out.next hb1); clear hb1)
      | (go_at_call 9; (with_reducible refine (KAW.out _ HP1.out.bel).mono ?_); rintro e w5 ⟨rfl, hb5⟩; have HP2 := Lib.hid (HP1.out.next hb5); clear hb5))
    go_ret
    exact ⟨rfl, HP2.out.bel⟩
  · rw [hsh] at KSH
    have h8 : ∀ s ∈ [ch, sl, mm, mo, mg, mh, wm, wo, wg, wh, se, at_, ha, el, es, bl, ma], s.size ≤ 8 := by
      intro s hs
      have := List.all_eq_true.1 hsh s hs
      simpa using this
    have z1 := h8 mm (by simp)
    have z2 := h8 mo (by simp)
    have z3 := h8 wm (by simp)
    have z4 := h8 at_ (by simp)
    have q1 : num ha < 18446744073709551616 := natSmall_bound _ (h8 ha (by simp))
    have q2 : num el < 18446744073709551616 := natSmall_bound _ (h8 el (by simp))
    have q3 : num es < 18446744073709551616 := natSmall_bound _ (h8 es (by simp))
    have q4 : num bl < 18446744073709551616 := natSmall_bound _ (h8 bl (by simp))
    have q5 : num ma < 18446744073709551616 := natSmall_bound _ (h8 ma (by simp))
    have KC := fun wq (h1 : Below w.heap.size w wq) => params_Check ch sl mm mo mg mh wm wo wg wh se at_ ha el es bl ma wq z1 z2 z3 z4 (hT.below h1)
    by_cases hc : parS ch sl mm mo mg mh wm wo wg wh se at_ ha el es bl ma = 0
    · rw [hc] at KC
      have ll : (18446744073709551616 + 65536 : Nat) < lim := by decide
      have l1 : num ha + y < lim := by omega
      have l2 : num el + y < lim := by omega
      have l4 : num bl + y < lim := by omega
      have l5 : num ma + y < lim := by omega
      have hq := grow_par hc l1 l2 l4 l5
      obtain ⟨xh, hxh⟩ : ∃ x, x = B (num ha + y) := ⟨_, rfl⟩
      obtain ⟨xe, hxe⟩ : ∃ x, x = B (num el + y) := ⟨_, rfl⟩
      obtain ⟨xb, hxb⟩ : ∃ x, x = B (num bl + y) := ⟨_, rfl⟩
      obtain ⟨xm, hxm⟩ : ∃ x, x = B (num ma + y) := ⟨_, rfl⟩
      have va := all_at (parS_zero hc).1 (k := 4) (by simp)
      have vb := all_at (parS_zero hc).1 (k := 5) (by simp)
      have vd := all_at (parS_zero hc).1 (k := 7) (by simp)
      have ve := all_at (parS_zero hc).1 (k := 8) (by simp)
      have m2 : 2 ≤ num ma := by
        have := all_at (parS_zero hc).2.2.1 (k := 8) (by simp)
        simpa using this
      have yl : y < lim := by omega
      have KAh := fun w => r01_AddV (num ha) y w (by omega) yl l1
      have KAe := fun w => r01_AddV (num el) y w (by omega) yl l2
      have KAb := fun w => r01_AddV (num bl) y w (by omega) yl l4
      have KAm := fun w => r01_AddV (num ma) y w (by omega) yl l5
      rw [B_num (s := ha) va, ← hxh] at KAh
      rw [B_num (s := el) vb, ← hxe] at KAe
      rw [B_num (s := bl) vd, ← hxb] at KAb
      rw [B_num (s := ma) ve, ← hxm] at KAm
      rw [← hxh, ← hxe, ← hxb, ← hxm] at hq
      have nh : num xh = num ha + y := by rw [hxh, num_B]
      have ne_ : num xe = num el + y := by rw [hxe, num_B]
      have nb : num xb = num bl + y := by rw [hxb, num_B]
      have nm : num xm = num ma + y := by rw [hxm, num_B]
      have KS := fun wq (h1 : Below w.heap.size w wq) => params_SizesS ch sl mm mo mg mh wm wo wg wh se at_ ha el es bl ma wq z1 z2 z3 z4 (by omega) (by omega) (by omega) (by omega) (by omega) (hT.below h1)
      have KT := fun wq (h1 : Below w.heap.size w wq) => params_SizesS ch sl mm mo mg mh wm wo wg wh se at_ xh xe es xb xm wq z1 z2 z3 z4 (by omega) (by omega) (by omega) (by omega) (by omega) (hT.below h1)
      have KD := fun wq (h1 : Below w.heap.size w wq) => params_Check ch sl mm mo mg mh wm wo wg wh se at_ xh xe es xb xm wq z1 z2 z3 z4 (hT.below h1)
      rw [hc] at KS
      rw [hq] at KT KD
      have e1 : sizeV 0 el es bl ma = B (2 * num bl + (num el + num es) * num ma) := if_pos rfl
      have e2 : sizeH 0 ha ma = B (num ha * num ma) := if_pos rfl
      have e3 : sizeV 0 xe es xb xm = B (2 * (num bl + y) + (num el + y + num es) * (num ma + y)) := by unfold sizeV; rw [if_pos rfl, nb, ne_, nm]
      have e4 : sizeH 0 xh xm = B ((num ha + y) * (num ma + y)) := by unfold sizeH; rw [if_pos rfl, nh, nm]
      rw [e1, e2] at KS
      rw [e3, e4] at KT
      obtain ⟨v1, hv1⟩ : ∃ v, v = 2 * num bl + (num el + num es) * num ma := ⟨_, rfl⟩
      obtain ⟨v2, hv2⟩ : ∃ v, v = num ha * num ma := ⟨_, rfl⟩
      obtain ⟨v3, hv3⟩ : ∃ v, v = 2 * (num bl + y) + (num el + y + num es) * (num ma + y) := ⟨_, rfl⟩
      obtain ⟨v4, hv4⟩ : ∃ v, v = (num ha + y) * (num ma + y) := ⟨_, rfl⟩
      have cz : cmpN v3 v1 = (if y = 0 then 0 else 1) ∧ cmpN v4 v2 = (if y = 0 then 0 else 1) := by
        by_cases h0 : y = 0
        · subst h0
          rw [if_pos rfl, hv1, hv2, hv3, hv4]
          simp only [Nat.add_zero]
          unfold cmpN
          simp
        · rw [if_neg h0]
          have a := size_v (bl := num bl) (el := num el) (es := num es) (ma := num ma) (Nat.pos_of_ne_zero h0)
          have b := size_h (ha := num ha) m2 (Nat.pos_of_ne_zero h0)
          rw [← hv1, ← hv3] at a
          rw [← hv2, ← hv4] at b
          exact ⟨cmpN_gt a, cmpN_gt b⟩
      have k3 : v3 < lim := by
        have : (num el + y + num es) * (num ma + y) ≤ (18446744073709551616 + 65536 + 18446744073709551616) * (18446744073709551616 + 65536) := Nat.mul_le_mul (by omega) (by omega)
        have l9 : 2 * (18446744073709551616 + 65536) + (18446744073709551616 + 65536 + 18446744073709551616) * (18446744073709551616 + 65536) < lim := by decide
        omega
      have k4 : v4 < lim := by
        have : (num ha + y) * (num ma + y) ≤ (18446744073709551616 + 65536) * (18446744073709551616 + 65536) := Nat.mul_le_mul (by omega) (by omega)
        have l9 : (18446744073709551616 + 65536) * (18446744073709551616 + 65536) < lim := by decide
        omega
      have k1 : v1 < lim := by
        have : (num el + num es) * num ma ≤ (18446744073709551616 + 18446744073709551616) * 18446744073709551616 := Nat.mul_le_mul (by omega) (by omega)
        have l9 : 2 * 18446744073709551616 + (18446744073709551616 + 18446744073709551616) * 18446744073709551616 < lim := by decide
        omega
      have k2 : v2 < lim := by
        have : num ha * num ma ≤ 18446744073709551616 * 18446744073709551616 := Nat.mul_le_mul (by omega) (by omega)
        have l9 : 18446744073709551616 * 18446744073709551616 < lim := by decide
        omega
      have KP := fun w => r01_Cmp (B v3) (B v1) w
      have KQ := fun w => r01_Cmp (B v4) (B v2) w
      rw [natCmp_BB k3 k1, cz.1] at KP
      rw [natCmp_BB k4 k2, cz.2] at KQ
      rw [← hv1, ← hv2] at KS
      rw [← hv3, ← hv4] at KT
      have KNN := fun w => law11_num y w (by omega)
      obtain ⟨N, hN⟩ : ∃ N, N = B y := ⟨_, rfl⟩
      rw [← hN] at KNN KAh KAe KAb KAm
      obtain ⟨Y, hY⟩ : ∃ Y : Int, Y = (y : Int) := ⟨_, rfl⟩
      obtain ⟨cc, hcc⟩ : ∃ c : Int, c = (if y = 0 then 0 else 1) := ⟨_, rfl⟩
      rw [← hcc] at KP KQ
      have hyc : (Y = 0 ∧ cc = 0) ∨ (¬ Y = 0 ∧ (Y == 0) = false ∧ cc = 1) := by
        by_cases h0 : y = 0
        · left; rw [hcc, hY, if_pos h0]; exact ⟨by omega, rfl⟩
        · right
          have : ¬ Y = 0 := by omega
          rw [hcc, if_neg h0]
          exact ⟨this, by rw [beq_eq_false_iff_ne]; exact this, rfl⟩
      have hwr : IntKind.u64.wrap Y = Y := by rw [hY, IntKind.wrap_u64]; omega
      have hwr : Hid (Value.int .u64 (IntKind.u64.wrap Y) = .int .u64 Y) := Lib.hid (by rw [hwr])
      rw [← hY] at KNN ⊢
      have KS := Lib.hid KS
      have KT := Lib.hid KT
      have KC := Lib.hid KC
      have KD := Lib.hid KD
      have KP := Lib.hid KP
      have KQ := Lib.hid KQ
      have KNN := Lib.hid KNN
      have KAh := Lib.hid KAh
      have KAe := Lib.hid KAe
      have KAb := Lib.hid KAb
      have KAm := Lib.hid KAm
      clear k1 k2 k3 k4 cz e1 e2 e3 e4 nh ne_ nb nm hq hxh hxe hxb hxm va vb vd ve m2 yl l1 l2 l4 l5 ll q1 q2 q3 q4 q5 z1 z2 z3 z4 h8 hv1 hv2 hv3 hv4 hN hY hcc hc hsh hT hT10 hy
      clear y
      go_enter Tryz.func6, Tryz.ntmps6
      go_upto_region 4 with (first
        | (refine wpList_load_row rfl 53 _ rfl w.heap.size rfl _ _ _ _ (heap_alloc_new w _) Tryz.underlying53 rfl (info17.trans rfl) ?_)
        | (refine wpList_load_row_g (by rfl) 53 _ rfl w.heap.size rfl _ _ _ _ HP1.out.blk Tryz.underlying53 rfl (info17.trans rfl) ?_)
        | (refine wpList_load_row rfl 53 _ rfl w.heap.size rfl _ _ _ _ HP2.out.blk Tryz.underlying53 rfl (info17.trans rfl) ?_)
        | (go_at_call 19; (with_reducible refine (KSH.out _).mono ?_); rintro e w1 ⟨rfl, hb1⟩; have HP1 := Lib.hid (HP0.out.next hb1); clear hb1)
        | (go_at_call 22; (with_reducible refine (KC.out _ HP1.out.bel).mono ?_); rintro e w2 ⟨rfl, hb2⟩; have HP2 := Lib.hid (HP1.out.next hb2); clear hb2))
      have HG0 := Lib.hid (show GwAt w #[.string ch, .string sl, .string mm, .string mo, .string mg, .string mh, .string wm, .string wo, .string wg, .string wh, .string se, .string at_, .string ha, .string el, .string es, .string bl, .string ma] w2.heap.size #[.string ch, .string sl, .string mm, .string mo, .string mg, .string mh, .string wm, .string wo, .string wg, .string wh, .string se, .string at_, .string ha, .string el, .string es, .string bl, .string ma] (w2.alloc (.cells #[.string ch, .string sl, .string mm, .string mo, .string mg, .string mh, .string wm, .string wo, .string wg, .string wh, .string se, .string at_, .string ha, .string el, .string es, .string bl, .string ma] 53)) from ⟨HP2.out.next ((Below.refl _ _).alloc (Nat.le_refl _) _), heap_alloc_new w2 _, cell_in' (a := ⟨w.heap.size, 0, none⟩) (HP2.out.cell 0)⟩)
      obtain ⟨gq, hgq⟩ : ∃ g, g = w2.heap.size := ⟨_, rfl⟩
      obtain ⟨W, hW⟩ : ∃ W, W = w2.alloc (.cells #[.string ch, .string sl, .string mm, .string mo, .string mg, .string mh, .string wm, .string wo, .string wg, .string wh, .string se, .string at_, .string ha, .string el, .string es, .string bl, .string ma] 53) := ⟨_, rfl⟩
      rw [← hgq, ← hW] at HG0 ⊢
      clear hgq hW HP2 HP1 HP0 KSH KC
      obtain ⟨cs, hcs⟩ : ∃ cs : Array Value, cs = #[.string ch, .string sl, .string mm, .string mo, .string mg, .string mh, .string wm, .string wo, .string wg, .string wh, .string se, .string at_, .string ha, .string el, .string es, .string bl, .string ma] := ⟨_, rfl⟩
      have HG0 : Hid (GwAt w cs gq #[.string ch, .string sl, .string mm, .string mo, .string mg, .string mh, .string wm, .string wo, .string wg, .string wh, .string se, .string at_, .string ha, .string el, .string es, .string bl, .string ma] W) := Lib.hid (by rw [hcs]; exact HG0.out)
      have HCS := Lib.hid hcs
      clear hcs
      go_cut [24] (fun _ wx => GwAt w cs gq #[.string ch, .string sl, .string mm, .string mo, .string mg, .string mh, .string wm, .string wo, .string wg, .string wh, .string se, .string at_, .string ha, .string el, .string es, .string xb, .string ma] wx)
      case first =>
        as_aux_lemma =>
        have hc := (HG0.out.par.cell 15).trans (show cs[15]? = some (.string bl) by rw [HCS.out]; rfl)
        have hq := (HG0.out.qcell 15).trans (show _ = some (Value.string bl) from rfl)
        have hf := (HG0.out.there (k := 15) (by simp)).2
        have hne : ¬ gq = w.heap.size := fun e => by have := HG0.out.lt; omega
        go_region_held3 (fun w' => w'.cell? ⟨w.heap.size, 15, none⟩ = some (.string bl)) (first | go_keep) (first
          | (go_at_call 25; (try rw [hwr.out]); (with_reducible refine (KNN.out _).mono ?_); rintro e w10 ⟨rfl, hb10⟩; have HA1 : Hid (GwAt w cs gq #[.string ch, .string sl, .string mm, .string mo, .string mg, .string mh, .string wm, .string wo, .string wg, .string wh, .string se, .string at_, .string ha, .string el, .string es, .string bl, .string ma] w10) := (by first | exact Lib.hid (HG0.out.next hb10) | exact Lib.hid ((HG0.out.next (Below.refl _ _).drew).next hb10)); have hc := (HA1.out.par.cell 15).trans (show cs[15]? = some (.string bl) by rw [HCS.out]; rfl); have hq := (HA1.out.qcell 15).trans (show _ = some (Value.string bl) from rfl); have hf := (HA1.out.there (k := 15) (by simp)).2; clear hb10)
          | (go_at_call 24; (with_reducible refine (KAb.out _).mono ?_); rintro e w11 ⟨rfl, hb11⟩; have HA2 : Hid (GwAt w cs gq #[.string ch, .string sl, .string mm, .string mo, .string mg, .string mh, .string wm, .string wo, .string wg, .string wh, .string se, .string at_, .string ha, .string el, .string es, .string bl, .string ma] w11) := (by first | exact Lib.hid (HA1.out.next hb11) | exact Lib.hid ((HA1.out.next (Below.refl _ _).drew).next hb11)); have hc := (HA2.out.par.cell 15).trans (show cs[15]? = some (.string bl) by rw [HCS.out]; rfl); have hq := (HA2.out.qcell 15).trans (show _ = some (Value.string bl) from rfl); have hf := (HA2.out.there (k := 15) (by simp)).2; clear hb11))
        all_goals
          go_wp2_with fail
          go_meet
          exact (by first | exact HA2.out.put 15 (.string xb) | exact (HA2.out.put 15 (.string xb)).next (Below.refl _ _).drew)
      case rest =>
        have HG1 := Lib.hid hcut
        clear hcut HG0
        go_upto_region 5 with fail
        go_cut [34] (fun _ wx => GwAt w cs gq #[.string ch, .string sl, .string mm, .string mo, .string mg, .string mh, .string wm, .string wo, .string wg, .string wh, .string se, .string at_, .string ha, .string el, .string es, .string xb, .string xm] wx)
        case first =>
          as_aux_lemma =>
          have hc := (HG1.out.par.cell 16).trans (show cs[16]? = some (.string ma) by rw [HCS.out]; rfl)
          have hq := (HG1.out.qcell 16).trans (show _ = some (Value.string ma) from rfl)
          have hf := (HG1.out.there (k := 16) (by simp)).2
          have hne : ¬ gq = w.heap.size := fun e => by have := HG1.out.lt; omega
          go_region_held3 (fun w' => w'.cell? ⟨w.heap.size, 16, none⟩ = some (.string ma)) (first | go_keep) (first
            | (go_at_call 25; (try rw [hwr.out]); (with_reducible refine (KNN.out _).mono ?_); rintro e w10 ⟨rfl, hb10⟩; have HA1 : Hid (GwAt w cs gq #[.string ch, .string sl, .string mm, .string mo, .string mg, .string mh, .string wm, .string wo, .string wg, .string wh, .string se, .string at_, .string ha, .string el, .string es, .string xb, .string ma] w10) := (by first | exact Lib.hid (HG1.out.next hb10) | exact Lib.hid ((HG1.out.next (Below.refl _ _).drew).next hb10)); have hc := (HA1.out.par.cell 16).trans (show cs[16]? = some (.string ma) by rw [HCS.out]; rfl); have hq := (HA1.out.qcell 16).trans (show _ = some (Value.string ma) from rfl); have hf := (HA1.out.there (k := 16) (by simp)).2; clear hb10)
            | (go_at_call 24; (with_reducible refine (KAm.out _).mono ?_); rintro e w11 ⟨rfl, hb11⟩; have HA2 : Hid (GwAt w cs gq #[.string ch, .string sl, .string mm, .string mo, .string mg, .string mh, .string wm, .string wo, .string wg, .string wh, .string se, .string at_, .string ha, .string el, .string es, .string xb, .string ma] w11) := (by first | exact Lib.hid (HA1.out.next hb11) | exact Lib.hid ((HA1.out.next (Below.refl _ _).drew).next hb11)); have hc := (HA2.out.par.cell 16).trans (show cs[16]? = some (.string ma) by rw [HCS.out]; rfl); have hq := (HA2.out.qcell 16).trans (show _ = some (Value.string ma) from rfl); have hf := (HA2.out.there (k := 16) (by simp)).2; clear hb11))
          all_goals
            go_wp2_with fail
            go_meet
            exact (by first | exact HA2.out.put 16 (.string xm) | exact (HA2.out.put 16 (.string xm)).next (Below.refl _ _).drew)
        case rest =>
          have HG2 := Lib.hid hcut
          clear hcut HG1
          go_upto_region 6 with fail
          go_cut [44] (fun _ wx => GwAt w cs gq #[.string ch, .string sl, .string mm, .string mo, .string mg, .string mh, .string wm, .string wo, .string wg, .string wh, .string se, .string at_, .string xh, .string el, .string es, .string xb, .string xm] wx)
          case first =>
            as_aux_lemma =>
            have hc := (HG2.out.par.cell 12).trans (show cs[12]? = some (.string ha) by rw [HCS.out]; rfl)
            have hq := (HG2.out.qcell 12).trans (show _ = some (Value.string ha) from rfl)
            have hf := (HG2.out.there (k := 12) (by simp)).2
            have hne : ¬ gq = w.heap.size := fun e => by have := HG2.out.lt; omega
            go_region_held3 (fun w' => w'.cell? ⟨w.heap.size, 12, none⟩ = some (.string ha)) (first | go_keep) (first
              | (go_at_call 25; (try rw [hwr.out]); (with_reducible refine (KNN.out _).mono ?_); rintro e w10 ⟨rfl, hb10⟩; have HA1 : Hid (GwAt w cs gq #[.string ch, .string sl, .string mm, .string mo, .string mg, .string mh, .string wm, .string wo, .string wg, .string wh, .string se, .string at_, .string ha, .string el, .string es, .string xb, .string xm] w10) := (by first | exact Lib.hid (HG2.out.next hb10) | exact Lib.hid ((HG2.out.next (Below.refl _ _).drew).next hb10)); have hc := (HA1.out.par.cell 12).trans (show cs[12]? = some (.string ha) by rw [HCS.out]; rfl); have hq := (HA1.out.qcell 12).trans (show _ = some (Value.string ha) from rfl); have hf := (HA1.out.there (k := 12) (by simp)).2; clear hb10)
              | (go_at_call 24; (with_reducible refine (KAh.out _).mono ?_); rintro e w11 ⟨rfl, hb11⟩; have HA2 : Hid (GwAt w cs gq #[.string ch, .string sl, .string mm, .string mo, .string mg, .string mh, .string wm, .string wo, .string wg, .string wh, .string se, .string at_, .string ha, .string el, .string es, .string xb, .string xm] w11) := (by first | exact Lib.hid (HA1.out.next hb11) | exact Lib.hid ((HA1.out.next (Below.refl _ _).drew).next hb11)); have hc := (HA2.out.par.cell 12).trans (show cs[12]? = some (.string ha) by rw [HCS.out]; rfl); have hq := (HA2.out.qcell 12).trans (show _ = some (Value.string ha) from rfl); have hf := (HA2.out.there (k := 12) (by simp)).2; clear hb11))
            all_goals
              go_wp2_with fail
              go_meet
              exact (by first | exact HA2.out.put 12 (.string xh) | exact (HA2.out.put 12 (.string xh)).next (Below.refl _ _).drew)
          case rest =>
            have HG3 := Lib.hid hcut
            clear hcut HG2
            go_upto_region 7 with fail
            go_cut [54] (fun _ wx => GwAt w cs gq #[.string ch, .string sl, .string mm, .string mo, .string mg, .string mh, .string wm, .string wo, .string wg, .string wh, .string se, .string at_, .string xh, .string xe, .string es, .string xb, .string xm] wx)
            case first =>
              as_aux_lemma =>
              have hc := (HG3.out.par.cell 13).trans (show cs[13]? = some (.string el) by rw [HCS.out]; rfl)
              have hq := (HG3.out.qcell 13).trans (show _ = some (Value.string el) from rfl)
              have hf := (HG3.out.there (k := 13) (by simp)).2
              have hne : ¬ gq = w.heap.size := fun e => by have := HG3.out.lt; omega
              go_region_held3 (fun w' => w'.cell? ⟨w.heap.size, 13, none⟩ = some (.string el)) (first | go_keep) (first
                | (go_at_call 25; (try rw [hwr.out]); (with_reducible refine (KNN.out _).mono ?_); rintro e w10 ⟨rfl, hb10⟩; have HA1 : Hid (GwAt w cs gq #[.string ch, .string sl, .string mm, .string mo, .string mg, .string mh, .string wm, .string wo, .string wg, .string wh, .string se, .string at_, .string xh, .string el, .string es, .string xb, .string xm] w10) := (by first | exact Lib.hid (HG3.out.next hb10) | exact Lib.hid ((HG3.out.next (Below.refl _ _).drew).next hb10)); have hc := (HA1.out.par.cell 13).trans (show cs[13]? = some (.string el) by rw [HCS.out]; rfl); have hq := (HA1.out.qcell 13).trans (show _ = some (Value.string el) from rfl); have hf := (HA1.out.there (k := 13) (by simp)).2; clear hb10)
                | (go_at_call 24; (with_reducible refine (KAe.out _).mono ?_); rintro e w11 ⟨rfl, hb11⟩; have HA2 : Hid (GwAt w cs gq #[.string ch, .string sl, .string mm, .string mo, .string mg, .string mh, .string wm, .string wo, .string wg, .string wh, .string se, .string at_, .string xh, .string el, .string es, .string xb, .string xm] w11) := (by first | exact Lib.hid (HA1.out.next hb11) | exact Lib.hid ((HA1.out.next (Below.refl _ _).drew).next hb11)); have hc := (HA2.out.par.cell 13).trans (show cs[13]? = some (.string el) by rw [HCS.out]; rfl); have hq := (HA2.out.qcell 13).trans (show _ = some (Value.string el) from rfl); have hf := (HA2.out.there (k := 13) (by simp)).2; clear hb11))
              all_goals
                go_wp2_with fail
                go_meet
                exact (by first | exact HA2.out.put 13 (.string xe) | exact (HA2.out.put 13 (.string xe)).next (Below.refl _ _).drew)
            case rest =>
              have HG4 := Lib.hid hcut
              clear hcut HG3
              have HSZ : Hid ((Tryz.prog.info? 53).map (·.size) = some cs.size) := Lib.hid (by rw [HCS.out]; exact info17.trans rfl)
              have KS := KS.out
              rw [← HCS.out] at KS
              have KS := Lib.hid KS
              clear KAh KAe KAb KAm KNN hwr HCS
              rcases hyc with ⟨rfl, rfl⟩ | ⟨h1, h2, rfl⟩
              all_goals
                as_aux_lemma =>
                go_wp2_with (first
                  | (refine wpList_load_row rfl 53 _ rfl w.heap.size rfl _ _ _ _ HG4.out.par.blk Tryz.underlying53 rfl HSZ.out ?_)
                  | (go_at_call 20; (with_reducible refine (KS.out _ HG4.out.par.bel).mono ?_); rintro e w20 ⟨rfl, hb20⟩; have HG5 := Lib.hid (HG4.out.next hb20); clear hb20)
                  | (refine wpList_load_row rfl 53 _ rfl gq rfl _ _ _ _ HG5.out.q Tryz.underlying53 rfl (info17.trans rfl) ?_)
                  | (go_at_call 20; (with_reducible refine (KT.out _ HG5.out.par.bel).mono ?_); rintro e w21 ⟨rfl, hb21⟩; have HG6 := Lib.hid (HG5.out.next hb21); clear hb21)
                  | (go_at_call 26; (with_reducible refine (KP.out _).mono ?_); rintro e w22 ⟨rfl, hb22⟩; have HG7 := Lib.hid (HG6.out.next hb22); clear hb22)
                  | (go_at_call 26; (with_reducible refine (KQ.out _).mono ?_); rintro e w23 ⟨rfl, hb23⟩; have HG8 := Lib.hid (HG7.out.next hb23); clear hb23)
                  | (go_at_call 9; (with_reducible refine (KAW.out _ HG8.out.par.bel).mono ?_); rintro e w24 ⟨rfl, hb24⟩; have HG9 := Lib.hid (HG8.out.next hb24); clear hb24)
                  | (refine wpList_load_row_g (by rfl) 53 _ rfl gq rfl _ _ _ _ HG9.out.q Tryz.underlying53 rfl (info17.trans rfl) ?_)
                  | (go_at_call 22; (with_reducible refine (KD.out _ HG9.out.par.bel).mono ?_); rintro e w25 ⟨rfl, hb25⟩; have HG10 := Lib.hid (HG9.out.next hb25); clear hb25))
                go_ret
                exact ⟨rfl, HG10.out.par.bel⟩
    · obtain ⟨c, hcc⟩ : ∃ c, c = parS ch sl mm mo mg mh wm wo wg wh se at_ ha el es bl ma := ⟨_, rfl⟩
      rw [← hcc] at KC hc
      have KC := Lib.hid KC
      clear hT hT10 hsh hy h8 z1 z2 z3 z4 q1 q2 q3 q4 q5 hcc
      go_enter Tryz.func6, Tryz.ntmps6
      go_wp2_with (first
        | (refine wpList_load_row rfl 53 _ rfl w.heap.size rfl _ _ _ _ (heap_alloc_new w _) Tryz.underlying53 rfl (info17.trans rfl) ?_)
        | (refine wpList_load_row_g (by rfl) 53 _ rfl w.heap.size rfl _ _ _ _ HP1.out.blk Tryz.underlying53 rfl (info17.trans rfl) ?_)
        | (go_at_call 19; (with_reducible refine (KSH.out _).mono ?_); rintro e w1 ⟨rfl, hb1⟩; have HP1 := Lib.hid (HP0.out.next hb1); clear hb1)
        | (go_at_call 22; (with_reducible refine (KC.out _ HP1.out.bel).mono ?_); rintro e w2 ⟨rfl, hb2⟩; have HP2 := Lib.hid (HP1.out.next hb2); clear hb2)
        | (go_at_call 9; (with_reducible refine (KAW.out _ HP2.out.bel).mono ?_); rintro e w5 ⟨rfl, hb5⟩; have HP3 := Lib.hid (HP2.out.next hb5); clear hb5))
      go_ret
      exact ⟨rfl, HP3.out.bel⟩

end Go.Proofs.YtfggpgiinihflaaGreatDoor
