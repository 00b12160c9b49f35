/- The law ParamsChecks: it returns true for all parameters. -/
import Derived.Test.YtfggpgiinihflaaGreatDoorPD
import Derived.Test.YtfggpgiinihflaaGreatDoorZM4
import Derived.Test.YtfggpgiinihflaaGreatDoorHs
namespace Go.Proofs.YtfggpgiinihflaaGreatDoor
open Go.RowKit
set_option maxRecDepth 100000
set_option linter.unusedVariables false
set_option maxHeartbeats 4000000

/-- The load of a whole row behind a guard that is on. -/
theorem wpList_load_row_g {P : Program} {ops : Array Oper} {rest : List Oper} {o : Oper} {a : Act} {w : World} {Q : Exit → Act → World → Prop} (hw : Region.wanted o (yielded ops a.tmps) = true) (ty : TypeId) (x : Operand) (ho : o.op = .load ty x)
    (g : Nat) (hx : a.eval x = .pointer (some ⟨g, 0, none⟩)) (t : TypeId) (cs : Array Value) (fr : Nat × Nat) (d : TypeDesc) (hg : w.heap[g]? = some (.cells cs t fr))
    (hu : P.underlying ty = some d) (hd : (match d with | .struct _ | .array _ _ => true | _ => false) = true) (hi : (P.info? ty).map (·.size) = some cs.size)
    (h : wpList P ops Q rest (a.put o.dst (.agg cs)) w) : wpList P ops Q (o :: rest) a w :=
  wpList_step fun K hK => by rw [if_pos hw]; exact wp_load_row ty x ho g hx t cs fr d hg hu hd hi (hK _ _ h)
/-- The sizes, or nothing where there is an error. -/
def sizeV (c : Int) (el es bl ma : ByteArray) : ByteArray := if c = 0 then B (2 * num bl + (num el + num es) * num ma) else ⟨#[]⟩
def sizeH (c : Int) (ha ma : ByteArray) : ByteArray := if c = 0 then B (num ha * num ma) else ⟨#[]⟩
theorem params_SizesS (ch sl mm mo mg mh wm wo wg wh se at_ ha el es bl ma : ByteArray) (w : World) (z1 : mm.size ≤ 8) (z2 : mo.size ≤ 8) (z3 : wm.size ≤ 8) (z4 : at_.size ≤ 8)
    (h1 : num ha < 36893488147419103232) (h2 : num el < 36893488147419103232) (h3 : num es < 36893488147419103232) (h4 : num bl < 36893488147419103232) (h5 : num ma < 36893488147419103232) (hT : Tab w) :
    Calls Tryz.prog 20 #[.agg #[.string ch, .string sl, .string mm, .string mo, .string mg, .string mh, .string wm, .string wo, .string wg, .string wh, .string se, .string at_, .string ha, .string el, .string es, .string bl, .string ma]] w fun e w' => e = .returned (.tuple #[.string (sizeV (parS ch sl mm mo mg mh wm wo wg wh se at_ ha el es bl ma) el es bl ma), .string (sizeH (parS ch sl mm mo mg mh wm wo wg wh se at_ ha el es bl ma) ha ma), .int .i64 (parS ch sl mm mo mg mh wm wo wg wh se at_ ha el es bl ma)]) ∧ Below w.heap.size w w' := by
  have KC := fun wq (hb : Below w.heap.size w wq) => params_Check ch sl mm mo mg mh wm wo wg wh se at_ ha el es bl ma wq z1 z2 z3 z4 (hT.below hb)
  by_cases hc : parS ch sl mm mo mg mh wm wo wg wh se at_ ha el es bl ma = 0
  · have hv := (parS_zero hc).1
    have va : valid ha = true := all_at hv (k := 4) (by simp)
    have vb : valid el = true := all_at hv (k := 5) (by simp)
    have vc : valid es = true := all_at hv (k := 6) (by simp)
    have vd : valid bl = true := all_at hv (k := 7) (by simp)
    have ve : valid ma = true := all_at hv (k := 8) (by simp)
    rw [hc] at KC ⊢
    unfold sizeV sizeH
    rw [if_pos rfl, if_pos rfl]
    have := params_Sizes_ok ch sl mm mo mg mh wm wo wg wh se at_ (num ha) (num el) (num es) (num bl) (num ma) w h1 h2 h3 h4 h5
    rw [B_num va, B_num vb, B_num vc, B_num vd, B_num ve] at this
    exact this KC
  · unfold sizeV sizeH
    rw [if_neg hc, if_neg hc]
    exact params_Sizes_err ch sl mm mo mg mh wm wo wg wh se at_ ha el es bl ma _ w hc KC
theorem r11_SizesS (ch sl mm mo mg mh wm wo wg wh se at_ ha el es bl ma : ByteArray) (w : World) (z1 : mm.size ≤ 8) (z2 : mo.size ≤ 8) (z3 : wm.size ≤ 8) (z4 : at_.size ≤ 8)
    (h1 : num ha < 36893488147419103232) (h2 : num el < 36893488147419103232) (h3 : num es < 36893488147419103232) (h4 : num bl < 36893488147419103232) (h5 : num ma < 36893488147419103232) :
    Calls Tryz.prog 21 #[.agg #[.string ch, .string sl, .string mm, .string mo, .string mg, .string mh, .string wm, .string wo, .string wg, .string wh, .string se, .string at_, .string ha, .string el, .string es, .string bl, .string ma]] w fun e w' => e = .returned (.tuple #[.string (sizeV (parS ch sl mm mo mg mh wm wo wg wh se at_ ha el es bl ma) el es bl ma), .string (sizeH (parS ch sl mm mo mg mh wm wo wg wh se at_ ha el es bl ma) ha ma), .int .i64 (parS ch sl mm mo mg mh wm wo wg wh se at_ ha el es bl ma)]) ∧ Below w.heap.size w w' := by
  have KC := fun wq => r11_Check ch sl mm mo mg mh wm wo wg wh se at_ ha el es bl ma wq z1 z2 z3 z4
  by_cases hc : parS ch sl mm mo mg mh wm wo wg wh se at_ ha el es bl ma = 0
  · have hv := (parS_zero hc).1
    have va : valid ha = true := all_at hv (k := 4) (by simp)
    have vb : valid el = true := all_at hv (k := 5) (by simp)
    have vc : valid es = true := all_at hv (k := 6) (by simp)
    have vd : valid bl = true := all_at hv (k := 7) (by simp)
    have ve : valid ma = true := all_at hv (k := 8) (by simp)
    rw [hc] at KC ⊢
    unfold sizeV sizeH
    rw [if_pos rfl, if_pos rfl, Nat.two_mul]
    have := r11_Sizes_ok ch sl mm mo mg mh wm wo wg wh se at_ (num ha) (num el) (num es) (num bl) (num ma) w h1 h2 h3 h4 h5
    rw [B_num va, B_num vb, B_num vc, B_num vd, B_num ve] at this
    exact this KC
  · unfold sizeV sizeH
    rw [if_neg hc, if_neg hc]
    exact r11_Sizes_err ch sl mm mo mg mh wm wo wg wh se at_ ha el es bl ma _ w hc KC
theorem law_checks (ch sl mm mo mg mh wm wo wg wh se at_ ha el es bl ma : ByteArray) (w : World) (hT : Tab w) (hT10 : Tab10 w) :
    Calls Tryz.prog 5 #[.agg #[.string ch, .string sl, .string mm, .string mo, .string mg, .string mh, .string wm, .string wo, .string wg, .string wh, .string se, .string at_, .string ha, .string el, .string es, .string bl, .string ma]] w fun e w' => e = .returned (.bool true) ∧ Below w.heap.size w w' := by
  have KAW := Lib.hid (fun wq (h1 : Below w.heap.size w wq) => law11_awake wq (hT.below h1) (hT10.below h1))
  have HP0 := Lib.hid (BoxPar.start w #[.string ch, .string sl, .string mm, .string mo, .string mg, .string mh, .string wm, .string wo, .string wg, .string wh, .string se, .string at_, .string ha, .string el, .string es, .string bl, .string ma])
  have KSH := Lib.hid (fun wq => law11_Short ch sl mm mo mg mh wm wo wg wh se at_ ha el es bl ma wq)
  cases hsh : shortS [ch, sl, mm, mo, mg, mh, wm, wo, wg, wh, se, at_, ha, el, es, bl, ma]
  · rw [hsh] at KSH
    clear hT hT10 hsh
    go_enter Tryz.func5, Tryz.ntmps5
    go_wp2_with (first
      | (refine wpList_load_row rfl 53 _ rfl w.heap.size rfl _ _ _ _ (heap_alloc_new w _) Tryz.underlying53 rfl (info17.trans rfl) ?_)
      | (go_at_call 19; (with_reducible refine (KSH.out _).mono ?_); rintro e w1 ⟨rfl, hb1⟩; have HP1 := Lib.hid (HP0.out.next hb1); clear hb1)
      | (go_at_call 9; (with_reducible refine (KAW.out _ HP1.out.bel).mono ?_); rintro e w5 ⟨rfl, hb5⟩; have HP2 := Lib.hid (HP1.out.next hb5); clear hb5))
    go_ret
    exact ⟨rfl, HP2.out.bel⟩
  · rw [hsh] at KSH
    have h8 : ∀ s ∈ [ch, sl, mm, mo, mg, mh, wm, wo, wg, wh, se, at_, ha, el, es, bl, ma], s.size ≤ 8 := by
      intro s hs
      have := List.all_eq_true.1 hsh s hs
      simpa using this
    have n8 : ∀ s ∈ [ch, sl, mm, mo, mg, mh, wm, wo, wg, wh, se, at_, ha, el, es, bl, ma], num s < 36893488147419103232 := fun s hs => Nat.lt_trans (natSmall_bound _ (h8 s hs)) (by decide)
    have z1 := h8 mm (by simp)
    have z2 := h8 mo (by simp)
    have z3 := h8 wm (by simp)
    have z4 := h8 at_ (by simp)
    have q1 := n8 ha (by simp)
    have q2 := n8 el (by simp)
    have q3 := n8 es (by simp)
    have q4 := n8 bl (by simp)
    have q5 := n8 ma (by simp)
    have KS := fun wq (h1 : Below w.heap.size w wq) => params_SizesS ch sl mm mo mg mh wm wo wg wh se at_ ha el es bl ma wq z1 z2 z3 z4 q1 q2 q3 q4 q5 (hT.below h1)
    have KR := fun wq => r11_SizesS ch sl mm mo mg mh wm wo wg wh se at_ ha el es bl ma wq z1 z2 z3 z4 q1 q2 q3 q4 q5
    have KC := fun wq (h1 : Below w.heap.size w wq) => params_Check ch sl mm mo mg mh wm wo wg wh se at_ ha el es bl ma wq z1 z2 z3 z4 (hT.below h1)
    have KD := fun wq => r11_Check ch sl mm mo mg mh wm wo wg wh se at_ ha el es bl ma wq z1 z2 z3 z4
    obtain ⟨c, hc⟩ : ∃ c, c = parS ch sl mm mo mg mh wm wo wg wh se at_ ha el es bl ma := ⟨_, rfl⟩
    rw [← hc] at KS KR KC KD
    obtain ⟨V, hV⟩ : ∃ x, x = sizeV c el es bl ma := ⟨_, rfl⟩
    obtain ⟨Z, hZ⟩ : ∃ x, x = sizeH c ha ma := ⟨_, rfl⟩
    rw [← hV, ← hZ] at KS KR
    have KS := Lib.hid KS
    have KR := Lib.hid KR
    have KC := Lib.hid KC
    have KD := Lib.hid KD
    clear h8 n8 z1 z2 z3 z4 q1 q2 q3 q4 q5 hc hV hZ hT hT10 hsh
    go_enter Tryz.func5, Tryz.ntmps5
    go_upto_region 5 with (first
      | (refine wpList_load_row rfl 53 _ rfl w.heap.size rfl _ _ _ _ (heap_alloc_new w _) Tryz.underlying53 rfl (info17.trans rfl) ?_)
      | (refine wpList_load_row rfl 53 _ rfl w.heap.size rfl _ _ _ _ HP1.out.blk Tryz.underlying53 rfl (info17.trans rfl) ?_)
      | (refine wpList_load_row rfl 53 _ rfl w.heap.size rfl _ _ _ _ HP2.out.blk Tryz.underlying53 rfl (info17.trans rfl) ?_)
      | (go_at_call 19; (with_reducible refine (KSH.out _).mono ?_); rintro e w1 ⟨rfl, hb1⟩; have HP1 := Lib.hid (HP0.out.next hb1); clear hb1)
      | (go_at_call 20; (with_reducible refine (KS.out _ HP1.out.bel).mono ?_); rintro e w2 ⟨rfl, hb2⟩; have HP2 := Lib.hid (HP1.out.next hb2); clear hb2)
      | (go_at_call 21; (with_reducible refine (KR.out _).mono ?_); rintro e w3 ⟨rfl, hb3⟩; have HP3 := Lib.hid (HP2.out.next hb3); clear hb3))
    obtain ⟨cs, hcs⟩ : ∃ cs : Array Value, cs = #[.string ch, .string sl, .string mm, .string mo, .string mg, .string mh, .string wm, .string wo, .string wg, .string wh, .string se, .string at_, .string ha, .string el, .string es, .string bl, .string ma] := ⟨_, rfl⟩
    have HQ3 : Hid (BoxPar w w3 cs) := Lib.hid (by rw [hcs]; exact HP3.out)
    have KC := KC.out
    have KD := KD.out
    rw [← hcs] at KC KD ⊢
    have KC := Lib.hid KC
    have KD := Lib.hid KD
    have HSZ : Hid ((Tryz.prog.info? 53).map (·.size) = some cs.size) := Lib.hid (by rw [hcs]; exact info17.trans rfl)
    clear hcs HP0 HP1 HP2 HP3 KS KR KSH
    refine wp_region_held_drew (S := (fun w' => w'.heap[w.heap.size]? = some (.cells cs 53 (0, 0)))) (by kernel_rfl) ?_ (fun hHeld => ?_)
    · exact HQ3.out.blk
    refine wpAnyH_ready (rs := [0]) (by kernel_rfl) (by simp) ?_
    refine AllReadyH.cons rfl (fun K hK => ?_) AllReadyH.nil
    go_simp
    (go_at_call 9; (with_reducible refine (KAW.out _ (by first | exact HQ3.out.bel | exact (HQ3.out.next (Below.refl _ _).drew).bel)).mono ?_); rintro e w4 ⟨rfl, hb4⟩; have HQ4 : Hid (BoxPar w w4 cs) := (by first | exact Lib.hid (HQ3.out.next hb4) | exact Lib.hid ((HQ3.out.next (Below.refl _ _).drew).next hb4)); clear hb4)
    go_wp2_with fail
    refine hK.out _ _ ?_ (fun hHeld => ?_)
    · exact HQ4.out.blk
    clear hK K
    try simp only [Act.put, List.setIfInBounds_toArray, List.set]
    refine wpAnyH_takeD (i := 1) (v := ?_) (some 26) rfl (by kernel_rfl) (by kernel_rfl) (by kernel_rfl) (fun _ _ _ h => h) rfl (Or.inl ⟨by rfl, ?_⟩) (by assumption) ?_
    rotate_left
    · intro w hSw; (try dsimp only at hSw); go_simp <;> with_reducible rfl
    try simp only [Act.put, List.setIfInBounds_toArray, List.set]
    refine wpAnyH_takeD (i := 2) (v := .agg cs) (some 27) rfl (by kernel_rfl) (by kernel_rfl) (by kernel_rfl) (fun _ _ _ h => h) rfl (Or.inl ⟨by rfl, ?_⟩) (by assumption) ?_
    · intro w' hS; exact run_exec_load_row 53 (.tmp 1) rfl w.heap.size rfl _ _ _ _ hS Tryz.underlying53 rfl HSZ.out
    try simp only [Act.put, List.setIfInBounds_toArray, List.set]
    refine wpAnyH_takeD (i := 4) (v := .agg cs) (some 29) rfl (by kernel_rfl) (by kernel_rfl) (by kernel_rfl) (fun _ _ _ h => h) rfl (Or.inl ⟨by rfl, ?_⟩) (by assumption) ?_
    · intro w' hS; exact run_exec_load_row 53 (.tmp 1) rfl w.heap.size rfl _ _ _ _ hS Tryz.underlying53 rfl HSZ.out
    try simp only [Act.put, List.setIfInBounds_toArray, List.set]
    refine wpAnyH_ready (rs := [3]) (by kernel_rfl) (by simp) ?_
    refine AllReadyH.cons rfl (fun K hK => ?_) AllReadyH.nil
    go_simp
    (go_at_call 22; (with_reducible refine (KC.out _ (by first | exact HQ4.out.bel | exact (HQ4.out.next (Below.refl _ _).drew).bel)).mono ?_); rintro e w5 ⟨rfl, hb5⟩; have HQ5 : Hid (BoxPar w w5 cs) := (by first | exact Lib.hid (HQ4.out.next hb5) | exact Lib.hid ((HQ4.out.next (Below.refl _ _).drew).next hb5)); clear hb5)
    go_wp2_with fail
    refine hK.out _ _ ?_ (fun hHeld => ?_)
    · exact HQ5.out.blk
    clear hK K
    try simp only [Act.put, List.setIfInBounds_toArray, List.set]
    refine wpAnyH_ready (rs := [5]) (by kernel_rfl) (by simp) ?_
    refine AllReadyH.cons rfl (fun K hK => ?_) AllReadyH.nil
    go_simp
    (go_at_call 23; (with_reducible refine (KD.out _).mono ?_); rintro e w6 ⟨rfl, hb6⟩; have HQ6 : Hid (BoxPar w w6 cs) := (by first | exact Lib.hid (HQ5.out.next hb6) | exact Lib.hid ((HQ5.out.next (Below.refl _ _).drew).next hb6)); clear hb6)
    go_wp2_with fail
    refine hK.out _ _ ?_ (fun hHeld => ?_)
    · exact HQ6.out.blk
    clear hK K
    try simp only [Act.put, List.setIfInBounds_toArray, List.set]
    refine wpAnyH_takeD (i := 6) (v := ?_) (some 31) rfl (by kernel_rfl) (by kernel_rfl) (by kernel_rfl) (fun _ _ _ h => h) rfl (Or.inl ⟨by rfl, ?_⟩) (by assumption) ?_
    rotate_left
    · intro w hSw; (try dsimp only at hSw); go_simp <;> with_reducible rfl
    try simp only [Act.put, List.setIfInBounds_toArray, List.set]
    refine wpAnyH_takeD (i := 7) (v := ?_) (some 32) rfl (by kernel_rfl) (by kernel_rfl) (by kernel_rfl) (fun _ _ _ h => h) rfl (Or.inl ⟨by rfl, ?_⟩) (by assumption) ?_
    rotate_left
    · intro w hSw; (try dsimp only at hSw); go_simp <;> with_reducible rfl
    try simp only [Act.put, List.setIfInBounds_toArray, List.set]
    refine wpAnyH_takeD (i := 8) (v := ?_) (some 33) rfl (by kernel_rfl) (by kernel_rfl) (by kernel_rfl) (fun _ _ _ h => h) rfl (Or.inl ⟨by rfl, ?_⟩) (by assumption) ?_
    rotate_left
    · intro w hSw; (try dsimp only at hSw); go_simp <;> with_reducible rfl
    try simp only [Act.put, List.setIfInBounds_toArray, List.set]
    refine wpAnyH_takeD (i := 9) (v := ?_) (some 34) rfl (by kernel_rfl) (by kernel_rfl) (by kernel_rfl) (fun _ _ _ h => h) rfl (Or.inl ⟨by rfl, ?_⟩) (by assumption) ?_
    rotate_left
    · intro w hSw; (try dsimp only at hSw); go_simp <;> with_reducible rfl
    try simp only [Act.put, List.setIfInBounds_toArray, List.set]
    refine wpAnyH_takeD (i := 10) (v := ?_) (some 35) rfl (by kernel_rfl) (by kernel_rfl) (by kernel_rfl) (fun _ _ _ h => h) rfl (Or.inl ⟨by rfl, ?_⟩) (by assumption) ?_
    rotate_left
    · intro w hSw; (try dsimp only at hSw); go_simp <;> with_reducible rfl
    try simp only [Act.put, List.setIfInBounds_toArray, List.set]
    refine wpAnyH_takeD (i := 11) (v := ?_) (some 36) rfl (by kernel_rfl) (by kernel_rfl) (by kernel_rfl) (fun _ _ _ h => h) rfl (Or.inl ⟨by rfl, ?_⟩) (by assumption) ?_
    rotate_left
    · intro w hSw; (try dsimp only at hSw); go_simp <;> with_reducible rfl
    try simp only [Act.put, List.setIfInBounds_toArray, List.set]
    refine wpAnyH_takeD (i := 12) (v := ?_) (some 37) rfl (by kernel_rfl) (by kernel_rfl) (by kernel_rfl) (fun _ _ _ h => h) rfl (Or.inl ⟨by rfl, ?_⟩) (by assumption) ?_
    rotate_left
    · intro w hSw; (try dsimp only at hSw); go_simp <;> with_reducible rfl
    try simp only [Act.put, List.setIfInBounds_toArray, List.set]
    refine wpAnyH_takeD (i := 13) (v := ?_) (some 38) rfl (by kernel_rfl) (by kernel_rfl) (by kernel_rfl) (fun _ _ _ h => h) rfl (Or.inl ⟨by rfl, ?_⟩) (by assumption) ?_
    rotate_left
    · intro w hSw; (try dsimp only at hSw); go_simp <;> with_reducible rfl
    try simp only [Act.put, List.setIfInBounds_toArray, List.set]
    refine wpAnyH_takeD (i := 14) (v := ?_) (some 39) rfl (by kernel_rfl) (by kernel_rfl) (by kernel_rfl) (fun _ _ _ h => h) rfl (Or.inl ⟨by rfl, ?_⟩) (by assumption) ?_
    rotate_left
    · intro w hSw; (try dsimp only at hSw); go_simp <;> with_reducible rfl
    try simp only [Act.put, List.setIfInBounds_toArray, List.set]
    refine wpAnyH_takeD (i := 15) (v := ?_) (some 40) rfl (by kernel_rfl) (by kernel_rfl) (by kernel_rfl) (fun _ _ _ h => h) rfl (Or.inl ⟨by rfl, ?_⟩) (by assumption) ?_
    rotate_left
    · intro w hSw; (try dsimp only at hSw); go_simp <;> with_reducible rfl
    try simp only [Act.put, List.setIfInBounds_toArray, List.set]
    refine wpAnyH_takeD (i := 16) (v := ?_) (some 41) rfl (by kernel_rfl) (by kernel_rfl) (by kernel_rfl) (fun _ _ _ h => h) rfl (Or.inl ⟨by rfl, ?_⟩) (by assumption) ?_
    rotate_left
    · intro w hSw; (try dsimp only at hSw); go_simp <;> with_reducible rfl
    try simp only [Act.put, List.setIfInBounds_toArray, List.set]
    refine wpAnyH_takeD (i := 17) (v := ?_) (some 42) rfl (by kernel_rfl) (by kernel_rfl) (by kernel_rfl) (fun _ _ _ h => h) rfl (Or.inl ⟨by rfl, ?_⟩) (by assumption) ?_
    rotate_left
    · intro w hSw; (try dsimp only at hSw); go_simp <;> with_reducible rfl
    try simp only [Act.put, List.setIfInBounds_toArray, List.set]
    refine wpAnyH_takeD (i := 18) (v := ?_) (some 43) rfl (by kernel_rfl) (by kernel_rfl) (by kernel_rfl) (fun _ _ _ h => h) rfl (Or.inl ⟨by rfl, ?_⟩) (by assumption) ?_
    rotate_left
    · intro w hSw; (try dsimp only at hSw); go_simp <;> with_reducible rfl
    try simp only [Act.put, List.setIfInBounds_toArray, List.set]
    refine wpAnyH_takeD (i := 19) (v := ?_) (some 44) rfl (by kernel_rfl) (by kernel_rfl) (by kernel_rfl) (fun _ _ _ h => h) rfl (Or.inl ⟨by rfl, ?_⟩) (by assumption) ?_
    rotate_left
    · intro w hSw; (try dsimp only at hSw); go_simp <;> with_reducible rfl
    try simp only [Act.put, List.setIfInBounds_toArray, List.set]
    refine wpAnyH_takeD (i := 20) (v := ?_) (some 45) rfl (by kernel_rfl) (by kernel_rfl) (by kernel_rfl) (fun _ _ _ h => h) rfl (Or.inl ⟨by rfl, ?_⟩) (by assumption) ?_
    rotate_left
    · intro w hSw; (try dsimp only at hSw); go_simp <;> with_reducible rfl
    try simp only [Act.put, List.setIfInBounds_toArray, List.set]
    refine wpAnyH_takeD (i := 21) (v := ?_) (some 46) rfl (by kernel_rfl) (by kernel_rfl) (by kernel_rfl) (fun _ _ _ h => h) rfl (Or.inl ⟨by rfl, ?_⟩) (by assumption) ?_
    rotate_left
    · intro w hSw; (try dsimp only at hSw); go_simp <;> with_reducible rfl
    try simp only [Act.put, List.setIfInBounds_toArray, List.set]
    refine wpAnyH_takeD (i := 22) (v := ?_) (some 47) rfl (by kernel_rfl) (by kernel_rfl) (by kernel_rfl) (fun _ _ _ h => h) rfl (Or.inl ⟨by rfl, ?_⟩) (by assumption) ?_
    rotate_left
    · intro w hSw; (try dsimp only at hSw); go_simp <;> with_reducible rfl
    try simp only [Act.put, List.setIfInBounds_toArray, List.set]
    refine wpAnyH_takeD (i := 23) (v := ?_) (some 2) rfl (by kernel_rfl) (by kernel_rfl) (by kernel_rfl) (fun _ _ _ h => h) rfl (Or.inl ⟨by rfl, ?_⟩) (by assumption) ?_
    rotate_left
    · intro w hSw; (try dsimp only at hSw); go_simp <;> with_reducible rfl
    try simp only [Act.put, List.setIfInBounds_toArray, List.set]
    refine wpAnyH_done (by kernel_rfl) ?_ _
    go_wp2_with fail
    go_ret
    exact ⟨rfl, by first | exact HQ6.out.bel | exact (HQ6.out.next (Below.refl _ _).drew).bel⟩

end Go.Proofs.YtfggpgiinihflaaGreatDoor
