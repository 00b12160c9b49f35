/- Wallet: the law file's awake. Wallet: the entry of a change, applied to the wallet before, yields the wallet after it (each kind). -/
import Derived.Test.YtlheedcnmfekoaaWeJ37
import Derived.Test.YtlheedcnmfekoaaWeJ30
import Derived.Test.YtlheedcnmfekoaaWeJ34
import Derived.Test.YtlheedcnmfekoaaWeYh4
import Derived.Test.YtlheedcnmfekoaaWeJ36
import Derived.Test.YtlheedcnmfekoaaWeJ28
namespace Go.Proofs.Ytlheedcnmfekoaa
open Go.RowKit
set_option maxRecDepth 100000
set_option linter.unusedVariables false
set_option maxHeartbeats 8000000
/-- The example's entry, and what it says. -/
theorem lit_dec : decS ⟨#[2, 11, 1, 6, 115, 101, 99, 114, 101, 116, 0, 1, 5]⟩ = .ok (2, ⟨#[]⟩, ⟨#[]⟩, .cons 1 ⟨#[]⟩ ⟨#[115, 101, 99, 114, 101, 116]⟩ .nil (.cons 0 ⟨#[5]⟩ ⟨#[]⟩ .nil .nil)) := by
  have h2 : (encS (2, ⟨#[]⟩, ⟨#[]⟩, .cons 1 ⟨#[]⟩ ⟨#[115, 101, 99, 114, 101, 116]⟩ .nil (.cons 0 ⟨#[5]⟩ ⟨#[]⟩ .nil .nil))).2 = 0 := by decide +kernel
  have h1 : (encS (2, ⟨#[]⟩, ⟨#[]⟩, .cons 1 ⟨#[]⟩ ⟨#[115, 101, 99, 114, 101, 116]⟩ .nil (.cons 0 ⟨#[5]⟩ ⟨#[]⟩ .nil .nil))).1 = ⟨#[2, 11, 1, 6, 115, 101, 99, 114, 101, 116, 0, 1, 5]⟩ := by decide +kernel
  have := dec_enc h2
  rwa [h1] at this
theorem lit_apply (w : World) : Calls Try.prog 12 #[.agg #[.string ⟨#[]⟩, .slice none 0 0, .slice none 0 0, .slice none 0 0], .string ⟨#[2, 11, 1, 6, 115, 101, 99, 114, 101, 116, 0, 1, 5]⟩] w (ApGot w ⟨#[5]⟩ [] [] []) :=
  apply_secret ⟨#[]⟩ [] [] [] none none none 0 0 0 0 0 0 (fun _ => False) w rfl rfl rfl ok_nil (val_nil (by decide)) WalM.nil_ (fun g hg => hg.elim) _ _ _ _ _ _ lit_dec (by decide) ⟨#[5]⟩ [] [] [] (fun W A c rb S1 S2 hc hb hsl hS _ _ => wal_secret ⟨#[]⟩ none none none 0 0 0 0 0 0 ⟨#[5]⟩ ⟨#[]⟩ .nil A c rb S1 W hc hb hsl hS)
theorem law56_awake (w : World) : Calls Try.prog 5 #[] w fun e w' => e = .returned (.bool true) ∧ Below w.heap.size w w' := by
  have HAP := Lib.hid (fun W => lit_apply W)
  have hv5 : valid ⟨#[5]⟩ = true := by decide
  have HV := Lib.hid hv5
  clear hv5
  go_enter Try.func5, Try.ntmps5
  go_upto_region 2 with (go_at_call 12; (with_reducible refine (HAP.out _).mono ?_); rintro e w1 ⟨A1, n1, c1, A2, n2, c2, A3, n3, c3, rfl, l1, l2, l3, hm, hb⟩; have HB1 := Lib.hid (AwB.start (sec := ⟨#[5]⟩) (us := []) (c1 := c1) (c2 := c2) (c3 := c3) hb l1 l2 l3 hm); clear hm hb l1 l2 l3)
  obtain ⟨b1, hb1⟩ : ∃ b, w1.heap.size = b := ⟨_, rfl⟩
  obtain ⟨w2, hw2⟩ : ∃ w2, w1.alloc (.cells #[.string ⟨#[5]⟩, .slice A1 n1 c1, .slice A2 n2 c2, .slice A3 n3 c3] 28) = w2 := ⟨_, rfl⟩
  rw [hw2] at HB1 ⊢
  rw [hb1] at HB1 ⊢
  clear hw2 hb1
  obtain ⟨⟨x0, x1, x2, x3⟩, y0, y1, y2, y3⟩ := HB1.out.bc
  have HU1 := Lib.hid (HB1.out.use ⟨#[115]⟩ 1 2 0 [(⟨#[115]⟩, 1, 1)] ok_nil (val_nil HV.out) rfl rfl (by decide) (by decide) (by decide) (by decide) (by decide))
  go_upto_region 3 with (go_at_call 7; (with_reducible refine HU1.out.mono ?_); rintro e w3 ⟨B1, m1, d1, B2, m2, d2, B3, m3, d3, s3, rfl, l1, l2, l3, hm, hb⟩; have HB2 := Lib.hid ((HB1.out.next hb).put (d1 := d1) (d2 := d2) (d3 := d3) hm (fun g hg => ⟨Nat.le_trans HB1.out.bel.size hg.1, hg.2, by have := HB1.out.lt; have := hg.1; omega⟩) l1 l2 l3); obtain ⟨⟨x0, x1, x2, x3⟩, y0, y1, y2, y3⟩ := (HB1.out.next hb).bc; clear hm hb l1 l2 l3)
  clear x0 x1 x2 x3 y0 y1 y2 y3
  obtain ⟨w4, hw4⟩ : ∃ w4, ((((w3.setCell ⟨b1, 0, none⟩ (.string ⟨#[5]⟩)).setCell ⟨b1, 1, none⟩ (.slice B1 m1 d1)).setCell ⟨b1, 2, none⟩ (.slice B2 m2 d2)).setCell ⟨b1, 3, none⟩ (.slice B3 m3 d3)) = w4 := ⟨_, rfl⟩
  rw [hw4] at HB2 ⊢
  clear hw4
  obtain ⟨⟨x0, x1, x2, x3⟩, y0, y1, y2, y3⟩ := HB2.out.bc
  have HU2 := Lib.hid (HB2.out.use ⟨#[115]⟩ 1 2 1 [(⟨#[115]⟩, 1, 2)] (ok_one (by decide) (by decide)) (val_one HV.out (by decide)) (cnt_one _ _ _) (put_one _ _ _ _) (by decide) (by decide) (by decide) (by decide) (by decide))
  go_upto_region 4 with (go_at_call 7; (with_reducible refine HU2.out.mono ?_); rintro e w5 ⟨C1, o1, e1, C2, o2, e2, C3, o3, e3, s5, rfl, l1, l2, l3, hm, hb⟩; have HB3 := Lib.hid ((HB2.out.next hb).put (d1 := e1) (d2 := e2) (d3 := e3) hm (fun g hg => ⟨Nat.le_trans HB2.out.bel.size hg.1, hg.2, by have := HB2.out.lt; have := hg.1; omega⟩) l1 l2 l3); obtain ⟨⟨x0, x1, x2, x3⟩, y0, y1, y2, y3⟩ := (HB2.out.next hb).bc; clear hm hb l1 l2 l3)
  clear x0 x1 x2 x3 y0 y1 y2 y3
  obtain ⟨w6, hw6⟩ : ∃ w6, ((((w5.setCell ⟨b1, 0, none⟩ (.string ⟨#[5]⟩)).setCell ⟨b1, 1, none⟩ (.slice C1 o1 e1)).setCell ⟨b1, 2, none⟩ (.slice C2 o2 e2)).setCell ⟨b1, 3, none⟩ (.slice C3 o3 e3)) = w6 := ⟨_, rfl⟩
  rw [hw6] at HB3 ⊢
  clear hw6
  obtain ⟨⟨x0, x1, x2, x3⟩, y0, y1, y2, y3⟩ := HB3.out.bc
  have HU3 := Lib.hid (HB3.out.lim ⟨#[115]⟩ 1 2 (ok_one (by decide) (by decide)) (val_one HV.out (by decide)) (by rw [cnt_one]; decide))
  go_upto_region 5 with (go_at_call 7; (with_reducible refine HU3.out.mono ?_); rintro e w7 ⟨rfl, hb⟩; have HB4 := Lib.hid ((HB3.out.next hb).alloc (.cells #[.string ⟨#[]⟩, .slice none 0 0, .slice none 0 0, .slice none 0 0] 28)); clear hb)
  clear x0 x1 x2 x3 y0 y1 y2 y3
  obtain ⟨w8, hw8⟩ : ∃ w8, w7.alloc (.cells #[.string ⟨#[]⟩, .slice none 0 0, .slice none 0 0, .slice none 0 0] 28) = w8 := ⟨_, rfl⟩
  rw [hw8] at HB4 ⊢
  clear hw8
  obtain ⟨⟨x0, x1, x2, x3⟩, y0, y1, y2, y3⟩ := HB4.out.bc
  have HU4 := Lib.hid (HB4.out.use ⟨#[115]⟩ 2 2 0 [(⟨#[115]⟩, 1, 2), (⟨#[115]⟩, 2, 1)] (ok_one (by decide) (by decide)) (val_one HV.out (by decide)) (cnt_not (isU_off _ _ _ _ _ (by decide))) (by unfold putU; rw [isU_off _ _ _ _ _ (by decide)]; rfl) (by decide) (by decide) (by decide) (by decide) (by decide))
  go_upto_region 6 with (go_at_call 7; (with_reducible refine HU4.out.mono ?_); rintro e w9 ⟨D1, q1, f1, D2, q2, f2, D3, q3, f3, s9, rfl, l1, l2, l3, hm, hb⟩; have HB5 := Lib.hid ((HB4.out.next hb).alloc (.cells #[.string ⟨#[5]⟩, .slice D1 q1 f1, .slice D2 q2 f2, .slice D3 q3 f3] 28)); clear hm hb l1 l2 l3)
  clear x0 x1 x2 x3 y0 y1 y2 y3
  obtain ⟨w10, hw10⟩ : ∃ w10, w9.alloc (.cells #[.string ⟨#[5]⟩, .slice D1 q1 f1, .slice D2 q2 f2, .slice D3 q3 f3] 28) = w10 := ⟨_, rfl⟩
  rw [hw10] at HB5 ⊢
  clear hw10
  obtain ⟨⟨x0, x1, x2, x3⟩, y0, y1, y2, y3⟩ := HB5.out.bc
  go_wp2_with fail
  go_ret
  exact ⟨rfl, HB5.out.bel⟩
end Go.Proofs.Ytlheedcnmfekoaa

namespace Go.Proofs.Ytlheedcnmfekoaa
open Go.RowKit
set_option maxRecDepth 100000
set_option linter.unusedVariables false
set_option maxHeartbeats 4000000
theorem inI_of {W : World} {A : Option Addr} {c rb : Nat} {S : Nat → Prop} {l : Its} (hc : l.len ≤ c) (hrd : RdI A l.len c rb W) (hsl : SlK W S A l) : InI W rb S l ∧ rb < W.heap.size := ⟨⟨A, c, hc, hsl, hrd⟩, hrd.lt⟩
section
variable (sec : ByteArray) (qs : List Az) (hs : List Hz) (us : List Uz) (Aa Ah Au : Option Addr) (na ca nh ch nu cu : Nat) (S : Nat → Prop) (w : World) (hq : qs.length = na) (hn : hs.length = nh) (hu : us.length = nu) (ho : WalOk qs hs us) (hval : validW sec qs hs us = true) (h : WalM w S qs hs us Aa Ah Au) (hS : ∀ g, S g → g < w.heap.size)
include hq hn hu ho hval h hS
theorem back_asked (i s n x b : ByteArray) (hno : qs.any (isA n) = false) (hok : (encS (entOf ⟨#[97, 115, 107, 101, 100]⟩ (askedL i s n x b))).2 = 0) :
    Calls Try.prog 12 #[.agg #[.string sec, .slice Aa na ca, .slice Ah nh ch, .slice Au nu cu], .string (encS (entOf ⟨#[97, 115, 107, 101, 100]⟩ (askedL i s n x b))).1] w (ApGot w sec (qs ++ [(i, s, n, x, b)]) hs us) := by
  have hat : ∀ x ∈ hs, x.att.length ≤ 100000 := fun x hx => by have := ho.att x hx; omega
  refine apply_asked sec qs hs us Aa Ah Au na ca nh ch nu cu S w hq hn hu ho hval h hS _ ⟨#[]⟩ ⟨#[]⟩ ⟨#[]⟩ .nil (askedL i s n x b) (dec_enc hok) (show 5 ≤ 10000 by decide) sec _ hs us ?_
  intro W A c rb S1 S2 hc hrd hsl hS1 hm hS2
  obtain ⟨hin, hr⟩ := inI_of hc hrd hsl
  exact wal_asked sec qs hs us Aa Ah Au na ca nh ch nu cu i s n x b rb S1 S2 W hq hn hu (by have := ho.na; omega) (by have := ho.nh; omega) (by have := ho.nu; omega) hat hno hin hr hS1 hm hS2
theorem back_held (nc : ByteArray) (x : Hz) (j : Nat) (y : Az) (hmx : x.att.length ≤ 1000) (hxv : -9223372036854775808 ≤ x.ver ∧ x.ver ≤ 9223372036854775807) (hxe : -9223372036854775808 ≤ x.ep ∧ x.ep ≤ 9223372036854775807) (hidx : idxA (isA nc) qs 0 = (j : Int)) (hy : qs[j]? = some y) (hbad : badS x y = false) (hok : (encS (entOf ⟨#[104, 101, 108, 100]⟩ (heldI nc x))).2 = 0) :
    Calls Try.prog 12 #[.agg #[.string sec, .slice Aa na ca, .slice Ah nh ch, .slice Au nu cu], .string (encS (entOf ⟨#[104, 101, 108, 100]⟩ (heldI nc x))).1] w (ApGot w sec (qs.eraseIdx j) (hs ++ [x]) us) := by
  have hat : ∀ x ∈ hs, x.att.length ≤ 100000 := fun x hx => by have := ho.att x hx; omega
  obtain ⟨yi, ys, yn, yx, yb⟩ := y
  refine apply_held sec qs hs us Aa Ah Au na ca nh ch nu cu S w hq hn hu ho hval h hS _ ⟨#[]⟩ ⟨#[]⟩ ⟨#[]⟩ .nil (heldI nc x) (dec_enc hok) (show 2 ≤ 10000 by decide) sec _ _ us ?_
  intro W A c rb S1 S2 hc hrd hsl hS1 hm hS2
  obtain ⟨hin, hr⟩ := inI_of hc hrd hsl
  exact wal_held_e sec qs hs us Aa Ah Au na ca nh ch nu cu nc j yi ys yn yx yb x rb S1 S2 W hq hn hu (by have := ho.na; omega) (by have := ho.nh; omega) (by have := ho.nu; omega) hat hmx hxv hxe hidx hy hbad hin hr hS1 hm hS2
theorem back_renewed (k : Nat) (x y : Hz) (hmx : x.att.length ≤ 1000) (hxv : -9223372036854775808 ≤ x.ver ∧ x.ver ≤ 9223372036854775807) (hxe : -9223372036854775808 ≤ x.ep ∧ x.ep ≤ 9223372036854775807) (hy : hs[k]? = some y) (hsame : sameH y x = true) (hep : y.ep ≤ x.ep) (hok : (encS (entOf ⟨#[114, 101, 110, 101, 119, 101, 100]⟩ (renewI k x))).2 = 0) :
    Calls Try.prog 12 #[.agg #[.string sec, .slice Aa na ca, .slice Ah nh ch, .slice Au nu cu], .string (encS (entOf ⟨#[114, 101, 110, 101, 119, 101, 100]⟩ (renewI k x))).1] w (ApGot w sec qs (hs.set k x) us) := by
  have hat : ∀ x ∈ hs, x.att.length ≤ 100000 := fun x hx => by have := ho.att x hx; omega
  refine apply_renewed sec qs hs us Aa Ah Au na ca nh ch nu cu S w hq hn hu ho hval h hS _ ⟨#[]⟩ ⟨#[]⟩ ⟨#[]⟩ .nil (renewI k x) (dec_enc hok) (show 2 ≤ 10000 by decide) sec qs _ us ?_
  intro W A c rb S1 S2 hc hrd hsl hS1 hm hS2
  obtain ⟨hin, hr⟩ := inI_of hc hrd hsl
  exact wal_renewed sec qs hs us Aa Ah Au na ca nh ch nu cu k y x rb S1 S2 W hq hn hu (by have := ho.na; omega) (by have := ho.nh; omega) (by have := ho.nu; omega) hat hmx hxv hxe hy hsame hep hin hr hS1 hm hS2
theorem back_used (sc : ByteArray) (z : Int) (hz : -9223372036854775808 ≤ z ∧ z ≤ 9223372036854775807) (hc0 : 0 ≤ cntU (isU sc z) us) (hc1 : cntU (isU sc z) us < 9223372036854775807) (hok : (encS (entOf ⟨#[117, 115, 101, 100]⟩ (usedL sc z (cntU (isU sc z) us + 1)))).2 = 0) :
    Calls Try.prog 12 #[.agg #[.string sec, .slice Aa na ca, .slice Ah nh ch, .slice Au nu cu], .string (encS (entOf ⟨#[117, 115, 101, 100]⟩ (usedL sc z (cntU (isU sc z) us + 1)))).1] w (ApGot w sec qs hs (putU (sc, z, cntU (isU sc z) us + 1) us)) := by
  have hat : ∀ x ∈ hs, x.att.length ≤ 100000 := fun x hx => by have := ho.att x hx; omega
  refine apply_used sec qs hs us Aa Ah Au na ca nh ch nu cu S w hq hn hu ho hval h hS _ ⟨#[]⟩ ⟨#[]⟩ ⟨#[]⟩ .nil (usedL sc z (cntU (isU sc z) us + 1)) (dec_enc hok) (show 3 ≤ 10000 by decide) sec qs hs _ ?_
  intro W A c rb S1 S2 hc hrd hsl hS1 hm hS2
  obtain ⟨hin, hr⟩ := inI_of hc hrd hsl
  exact wal_spent sec qs hs us Aa Ah Au na ca nh ch nu cu sc z rb S1 S2 W hq hn hu (by have := ho.na; omega) (by have := ho.nh; omega) (by have := ho.nu; omega) hat hz hc0 hc1 hin hr hS1 hm hS2
end
end Go.Proofs.Ytlheedcnmfekoaa
