/- The walk of params.Sizes over the error of Check. -/
import Derived.Test.YtfggpgiinihflaaGreatDoorPQ
import Derived.Deep.RegionHeld3
namespace Go.Proofs.YtfggpgiinihflaaGreatDoor
open Go.RowKit
set_option maxRecDepth 100000
set_option linter.unusedVariables false
set_option maxHeartbeats 4000000

theorem params_Sizes_err (ch sl mm mo mg mh wm wo wg wh se at_ : ByteArray) (ha el es bl ma : ByteArray) (c : Int) (w : World) (hc : c ≠ 0)
    (hC : ∀ wq, Below w.heap.size w wq → Calls Tryz.prog 22 #[.agg #[.string ch, .string sl, .string mm, .string mo, .string mg, .string mh, .string wm, .string wo, .string wg, .string wh, .string se, .string at_, .string ha, .string el, .string es, .string bl, .string ma]] wq fun e w' => e = .returned (.int .i64 c) ∧ Below wq.heap.size wq w') :
    Calls Tryz.prog 20 #[.agg #[.string ch, .string sl, .string mm, .string mo, .string mg, .string mh, .string wm, .string wo, .string wg, .string wh, .string se, .string at_, .string ha, .string el, .string es, .string bl, .string ma]] w fun e w' => e = .returned (.tuple #[.string ⟨#[]⟩, .string ⟨#[]⟩, .int .i64 c]) ∧ Below w.heap.size w w' := by
  have KC := Lib.hid hC
  have HP0 := Lib.hid (BoxPar.start w #[.string ch, .string sl, .string mm, .string mo, .string mg, .string mh, .string wm, .string wo, .string wg, .string wh, .string se, .string at_, .string ha, .string el, .string es, .string bl, .string ma])
  have hne : (c == 0) = false := by rw [beq_eq_false_iff_ne]; exact hc
  clear hC hc
  go_enter Tryz.func20, Tryz.ntmps20
  go_wp2_with (first | (refine wpList_load_row rfl 53 _ rfl w.heap.size rfl _ _ _ _ (heap_alloc_new w _) Tryz.underlying53 rfl (info17.trans rfl) ?_) | (go_at_call 22; (with_reducible refine (KC.out _ HP0.out.bel).mono ?_); rintro e w1 ⟨rfl, hb1⟩; have HP1 := Lib.hid (HP0.out.next hb1)))
  refine bodyPost_ret (v := .tuple #[.string ⟨#[]⟩, .string ⟨#[]⟩, .int .i64 c]) (by simp [results, Tryz.results20, go_sem]) rfl ⟨rfl, HP1.out.bel⟩

/-- The boxes of Sizes: the parameters, the error that the closures write. -/
structure SzAt (w : World) (g : Nat) (cs : Array Value) (wx : World) : Prop where
  par : BoxPar w wx cs
  c : wx.cell? ⟨g, 0, none⟩ = some (.int .i64 0)
  f : wx.frozen? ⟨g, 0, none⟩ = false
  lt : w.heap.size < g
theorem SzAt.next {w wx wy : World} {g : Nat} {cs : Array Value} (h : SzAt w g cs wx) (hb : Below wx.heap.size wx wy) : SzAt w g cs wy :=
  ⟨h.par.next hb, (hb.cell (cell_in' h.c)).trans h.c, (hb.frozen (p := ⟨g, 0, none⟩) (cell_in' h.c)).trans h.f, h.lt⟩
theorem SzAt.nextG {w wx wy : World} {g : Nat} {cs : Array Value} (h : SzAt w g cs wx) (hb : Below g wx wy) (hc : wy.cell? ⟨g, 0, none⟩ = some (.int .i64 0)) (hf : wy.frozen? ⟨g, 0, none⟩ = false) : SzAt w g cs wy :=
  ⟨⟨(hb.block _ h.lt).trans h.par.blk, h.par.bel.trans (hb.mono (Nat.le_of_lt h.lt))⟩, hc, hf, h.lt⟩
theorem SzAt.drew {w wx : World} {g : Nat} {cs : Array Value} (h : SzAt w g cs wx) : SzAt w g cs wx.drew := h.next (Below.refl _ _).drew
theorem SzAt.all {w wx : World} {g : Nat} {cs : Array Value} {el es bl ma : Nat} (hcs : cs[13]? = some (.string (B el)) ∧ cs[14]? = some (.string (B es)) ∧ cs[15]? = some (.string (B bl)) ∧ cs[16]? = some (.string (B ma))) (h : SzAt w g cs wx) :
    wx.cell? ⟨w.heap.size, 13, none⟩ = some (.string (B el)) ∧ wx.cell? ⟨w.heap.size, 14, none⟩ = some (.string (B es)) ∧ wx.cell? ⟨w.heap.size, 15, none⟩ = some (.string (B bl)) ∧ wx.cell? ⟨w.heap.size, 16, none⟩ = some (.string (B ma)) := ⟨(h.par.cell 13).trans hcs.1, (h.par.cell 14).trans hcs.2.1, (h.par.cell 15).trans hcs.2.2.1, (h.par.cell 16).trans hcs.2.2.2⟩
theorem params_Sizes_ok (ch sl mm mo mg mh wm wo wg wh se at_ : ByteArray) (ha el es bl ma : Nat) (w : World) (h1 : ha < 36893488147419103232) (h2 : el < 36893488147419103232) (h3 : es < 36893488147419103232) (h4 : bl < 36893488147419103232) (h5 : ma < 36893488147419103232)
    (hC : ∀ wq, Below w.heap.size w wq → Calls Tryz.prog 22 #[.agg #[.string ch, .string sl, .string mm, .string mo, .string mg, .string mh, .string wm, .string wo, .string wg, .string wh, .string se, .string at_, .string (B ha), .string (B el), .string (B es), .string (B bl), .string (B ma)]] wq fun e w' => e = .returned (.int .i64 0) ∧ Below wq.heap.size wq w') :
    Calls Tryz.prog 20 #[.agg #[.string ch, .string sl, .string mm, .string mo, .string mg, .string mh, .string wm, .string wo, .string wg, .string wh, .string se, .string at_, .string (B ha), .string (B el), .string (B es), .string (B bl), .string (B ma)]] w fun e w' => e = .returned (.tuple #[.string (B (2 * bl + (el + es) * ma)), .string (B (ha * ma)), .int .i64 0]) ∧ Below w.heap.size w w' := by
  have KC := Lib.hid hC
  have HP0 := Lib.hid (BoxPar.start w #[.string ch, .string sl, .string mm, .string mo, .string mg, .string mh, .string wm, .string wo, .string wg, .string wh, .string se, .string at_, .string (B ha), .string (B el), .string (B es), .string (B bl), .string (B ma)])
  have hP : (36893488147419103232 : Nat) + 36893488147419103232 < lim := by decide
  have l0 : (36893488147419103232 : Nat) < lim := by decide
  obtain ⟨S, hS⟩ : ∃ S, S = el + es := ⟨_, rfl⟩
  have hm1 : S * ma ≤ 73786976294838206464 * 36893488147419103232 := Nat.mul_le_mul (by omega) (by omega)
  have hm2 : ha * ma ≤ 36893488147419103232 * 36893488147419103232 := Nat.mul_le_mul (by omega) (by omega)
  have e1 : (73786976294838206464 * 36893488147419103232 + 73786976294838206464 : Nat) < lim := by decide
  have e2 : (36893488147419103232 * 36893488147419103232 : Nat) < lim := by decide
  have K1 := Lib.hid (fun g w => params_Sizes1 g el es w (Nat.lt_trans h2 l0) (Nat.lt_trans h3 l0) (Nat.lt_trans (Nat.add_lt_add h2 h3) hP))
  obtain ⟨X, hX⟩ : ∃ X, X = S * ma := ⟨_, rfl⟩
  have K2 := Lib.hid (fun g w => params_Sizes2 g S ma w (by omega) (Nat.lt_trans h5 l0) (by omega))
  obtain ⟨D, hD⟩ : ∃ D, D = 2 * bl := ⟨_, rfl⟩
  have K3 := Lib.hid (fun g w => params_Sizes2 g 2 bl w (by omega) (Nat.lt_trans h4 l0) (by omega))
  obtain ⟨V, hV⟩ : ∃ V, V = D + X := ⟨_, rfl⟩
  have K4 := Lib.hid (fun g w => params_Sizes1 g D X w (by omega) (by omega) (by omega))
  obtain ⟨H, hH⟩ : ∃ H, H = ha * ma := ⟨_, rfl⟩
  have K5 := Lib.hid (fun g w => params_Sizes2 g ha ma w (Nat.lt_trans h1 l0) (Nat.lt_trans h5 l0) (by omega))
  rw [← hS] at K1
  rw [← hX] at K2
  rw [← hD] at K3
  rw [← hV] at K4
  rw [← hH] at K5
  rw [← hS, ← hX, ← hD, ← hV, ← hH]
  clear hC hP l0 hm1 hm2 e1 e2 hS hX hD hV hH h1 h2 h3 h4 h5
  go_enter Tryz.func20, Tryz.ntmps20
  go_wp2_with (first | (refine wpList_load_row rfl 53 _ rfl w.heap.size rfl _ _ _ _ (heap_alloc_new w _) Tryz.underlying53 rfl (info17.trans rfl) ?_) | (go_at_call 22; (with_reducible refine (KC.out _ HP0.out.bel).mono ?_); rintro e w1 ⟨rfl, hb1⟩; have HP1 := Lib.hid (HP0.out.next hb1); clear hb1))
  obtain ⟨cs, hcs⟩ : ∃ cs : Array Value, cs = #[.string ch, .string sl, .string mm, .string mo, .string mg, .string mh, .string wm, .string wo, .string wg, .string wh, .string se, .string at_, .string (B ha), .string (B el), .string (B es), .string (B bl), .string (B ma)] := ⟨_, rfl⟩
  have HCS := Lib.hid (show cs[13]? = some (.string (B el)) ∧ cs[14]? = some (.string (B es)) ∧ cs[15]? = some (.string (B bl)) ∧ cs[16]? = some (.string (B ma)) by rw [hcs]; exact ⟨rfl, rfl, rfl, rfl⟩)
  have HC12 := Lib.hid (show cs[12]? = some (.string (B ha)) by rw [hcs]; rfl)
  rw [← hcs] at HP1
  have hz := (show SzAt w w1.heap.size cs (w1.alloc (.cells #[.int .i64 0] 29)) from ⟨HP1.out.next ((Below.refl _ _).alloc (Nat.le_refl _) _), by simp [go_sem], by simp [go_sem], (Array.getElem?_eq_some_iff.1 HP1.out.blk).1⟩)
  obtain ⟨g, hg⟩ : ∃ g, g = w1.heap.size := ⟨_, rfl⟩
  obtain ⟨W2, hW2⟩ : ∃ W2, W2 = w1.alloc (.cells #[.int .i64 0] 29) := ⟨_, rfl⟩
  rw [← hW2, ← hg] at hz ⊢
  have HZc := Lib.hid hz
  obtain ⟨c13, c14, c15, c16⟩ := SzAt.all HCS.out hz
  clear hz hW2 hg hcs HP1 HP0 KC
  go_region_held3 (fun w' => w'.cell? ⟨w.heap.size, 13, none⟩ = some (.string (B el)) ∧ w'.cell? ⟨w.heap.size, 14, none⟩ = some (.string (B es)) ∧ w'.cell? ⟨w.heap.size, 15, none⟩ = some (.string (B bl)) ∧ w'.cell? ⟨w.heap.size, 16, none⟩ = some (.string (B ma))) (first | go_keep) (first
    | (go_at_call 37; (with_reducible refine (natural_Of' 2 2 _ rfl (by decide)).mono ?_); rintro e w9 ⟨rfl, hb9⟩; have HZc := (by first | (with_reducible exact Lib.hid (HZc.out.next hb9)) | (with_reducible exact Lib.hid (HZc.out.drew.next hb9)) : Hid (SzAt w g cs w9)); obtain ⟨c13, c14, c15, c16⟩ := SzAt.all HCS.out HZc.out; clear hb9)
    | (go_at_call 44; (with_reducible refine (K1.out _ _ (by first | (with_reducible exact HZc.out.c) | exact HZc.out.drew.c) (by first | (with_reducible exact HZc.out.f) | exact HZc.out.drew.f)).mono ?_); rintro e w9 ⟨rfl, hb9, hc9, hf9⟩; have HZc := (by first | (with_reducible exact Lib.hid (HZc.out.nextG hb9 hc9 hf9)) | (with_reducible exact Lib.hid (HZc.out.drew.nextG hb9 hc9 hf9)) : Hid (SzAt w g cs w9)); obtain ⟨c13, c14, c15, c16⟩ := SzAt.all HCS.out HZc.out; clear hb9 hc9 hf9)
    | (go_at_call 46; (with_reducible refine (K3.out _ _ (by first | (with_reducible exact HZc.out.c) | exact HZc.out.drew.c) (by first | (with_reducible exact HZc.out.f) | exact HZc.out.drew.f)).mono ?_); rintro e w9 ⟨rfl, hb9, hc9, hf9⟩; have HZc := (by first | (with_reducible exact Lib.hid (HZc.out.nextG hb9 hc9 hf9)) | (with_reducible exact Lib.hid (HZc.out.drew.nextG hb9 hc9 hf9)) : Hid (SzAt w g cs w9)); obtain ⟨c13, c14, c15, c16⟩ := SzAt.all HCS.out HZc.out; clear hb9 hc9 hf9)
    | (go_at_call 46; (with_reducible refine (K2.out _ _ (by first | (with_reducible exact HZc.out.c) | exact HZc.out.drew.c) (by first | (with_reducible exact HZc.out.f) | exact HZc.out.drew.f)).mono ?_); rintro e w9 ⟨rfl, hb9, hc9, hf9⟩; have HZc := (by first | (with_reducible exact Lib.hid (HZc.out.nextG hb9 hc9 hf9)) | (with_reducible exact Lib.hid (HZc.out.drew.nextG hb9 hc9 hf9)) : Hid (SzAt w g cs w9)); obtain ⟨c13, c14, c15, c16⟩ := SzAt.all HCS.out HZc.out; clear hb9 hc9 hf9)
    | (go_at_call 44; (with_reducible refine (K4.out _ _ (by first | (with_reducible exact HZc.out.c) | exact HZc.out.drew.c) (by first | (with_reducible exact HZc.out.f) | exact HZc.out.drew.f)).mono ?_); rintro e w9 ⟨rfl, hb9, hc9, hf9⟩; have HZc := (by first | (with_reducible exact Lib.hid (HZc.out.nextG hb9 hc9 hf9)) | (with_reducible exact Lib.hid (HZc.out.drew.nextG hb9 hc9 hf9)) : Hid (SzAt w g cs w9)); obtain ⟨c13, c14, c15, c16⟩ := SzAt.all HCS.out HZc.out; clear hb9 hc9 hf9))
  all_goals
    have c12 := (HZc.out.par.cell 12).trans HC12.out
    have hc0 := HZc.out.c
    have hf0 := HZc.out.f
    have c16 := c16
    go_wp2_with (first | (go_at_call 46; (with_reducible refine (K5.out _ _ hc0 hf0).mono ?_); rintro e w10 ⟨rfl, hb10, hc10, hf10⟩; have HZd := Lib.hid (HZc.out.nextG hb10 hc10 hf10)))
    refine bodyPost_ret (v := .tuple #[.string (B V), .string (B H), .int .i64 0]) (by simp [results, Tryz.results20, go_sem]) rfl ⟨rfl, HZd.out.par.bel⟩

end Go.Proofs.YtfggpgiinihflaaGreatDoor
