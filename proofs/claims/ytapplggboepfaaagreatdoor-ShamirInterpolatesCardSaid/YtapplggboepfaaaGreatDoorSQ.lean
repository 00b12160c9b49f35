/- The walks of SameNats (equal lists), and of package 19's num and nums. The walk of package 19's examples. The walks of package 19's few and small. The walk of the law ShamirEvals. -/
import Derived.Test.YtapplggboepfaaaGreatDoorSo
import Derived.Test.YtapplggboepfaaaGreatDoorZM4
namespace Go.Proofs.YtapplggboepfaaaGreatDoor
open Go.RowKit
set_option maxRecDepth 100000
set_option linter.unusedVariables false
set_option linter.unusedSimpArgs false
set_option maxHeartbeats 4000000

theorem r06_SameNats (vals : List ByteArray) (A A' : Option Addr) (n c c' : Nat) (w : World) (hn : vals.length = n) (hm : n ≤ 900) (h : SLs w w.heap.size A vals) (h' : SLs w w.heap.size A' vals) :
    Calls Tryz.prog 21 #[.slice A n c, .slice A' n c'] w fun e w' => e = .returned (.bool true) ∧ Below w.heap.size w w' := by
  have HN := Lib.hid hn
  have HM := Lib.hid hm
  have HS0 := Lib.hid h
  have HS0' := Lib.hid h'
  clear h h' hn hm
  go_enter Tryz.func21, Tryz.ntmps21
  go_wp2_with fail
  go_loopw [5] (fun v wr => ∃ k : Nat, v = .int .i64 k ∧ k ≤ n ∧ Below w.heap.size w wr) (fun v _ => n - (intOf v).toNat)
  case atStart => exact ⟨0, rfl, Nat.zero_le _, Below.refl _ _⟩
  case round =>
    obtain ⟨k, rfl, hk, hb⟩ := hrel
    have HBE := Lib.hid hb
    by_cases hlt : k < n
    · obtain ⟨ad, rfl, hc⟩ := (HS0.out.below hb).at_ (k := k) (by rw [HN.out]; exact hlt)
      obtain ⟨ad', rfl, hc'⟩ := (HS0'.out.below hb).at_ (k := k) (by rw [HN.out]; exact hlt)
      obtain ⟨x, hx⟩ : ∃ x, x = vals.getD k ByteArray.empty := ⟨_, rfl⟩
      rw [← hx] at hc hc'
      have HLT := Lib.hid hlt
      have k1 : decide ((k : Int) < (n : Int)) = true := decide_eq_true (by omega)
      have k2 : (k : Int) < (n : Int) := by omega
      have k3 : (0 : Int) ≤ (k : Int) := by omega
      have HW := Lib.hid (show wrap64 ((k : Int) + 1) = (k : Int) + 1 from IntWalk.wrap64_in _ (by have := HM.out; omega))
      clear hb hx hlt hk
      go_wp2_with fail
      go_quiet (fail)
      go_wp2_with fail
      refine ⟨⟨k + 1, by rw [HW.out]; rfl, HLT.out, below_drewN HBE.out _⟩, ?_⟩
      rw [HW.out]
      have := HLT.out
      show n - ((k : Int) + 1).toNat < n - (k : Int).toNat
      omega
    · have k1 : decide ((k : Int) < (n : Int)) = false := decide_eq_false (by omega)
      obtain rfl : k = n := by omega
      clear hb hlt hk
      go_wp2_with fail
      go_ret
      exact ⟨rfl, HBE.out⟩
theorem law19_num (z : Int) (n : Nat) (w : World) (hz : z = n) (hn : n < 18446744073709551616) :
    Calls Tryz.prog 7 #[.int .u64 z] w fun e w' => e = .returned (.string (B n)) ∧ Below w.heap.size w w' := by
  have H := Lib.hid (fun w => r01_Of' z n w hz hn)
  clear hz hn
  go_enter Tryz.func7, Tryz.ntmps7
  go_wp2_with (first | (go_at_call 24; refine (H.out _).mono ?_; rintro e w1 ⟨rfl, hb1⟩))
  go_ret
  exact ⟨rfl, hb1⟩
/-- A row of numbers. -/
def URow (w : World) (g : Nat) (ns : List Nat) : Prop := ∀ j, j < ns.length → w.cell? ⟨g, j, none⟩ = some (.int .u64 ((ns.getD j 0 : Nat) : Int))
theorem law19_nums (ns : List Nat) (g n c : Nat) (w : World) (hn : ns.length = n) (hm : n ≤ 900) (hg : g < w.heap.size) (h : URow w g ns) (h64 : ∀ a ∈ ns, a < 18446744073709551616) :
    Calls Tryz.prog 23 #[.slice (some ⟨g, 0, none⟩) n c] w fun e w' => (∃ A c', e = .returned (.slice A n c') ∧ SLs w' w'.heap.size A (ns.map B)) ∧ Below w.heap.size w w' := by
  have HN := Lib.hid hn
  have HM := Lib.hid hm
  have HU := Lib.hid h
  have HG := Lib.hid hg
  have KO := Lib.hid (fun (k : Nat) wq (hk : k < n) => law19_num ((ns.getD k 0 : Nat) : Int) (ns.getD k 0) wq rfl (nget_lt h64 (by omega)))
  clear hn hm hg h h64
  go_enter Tryz.func23, Tryz.ntmps23
  go_wp2_with fail
  go_loopw [3, 4] (fun u v wr => ∃ k : Nat, v = .int .i64 k ∧ k ≤ n ∧ OwnS wr w.heap.size u k ((ns.take k).map B) ∧ Below w.heap.size w wr) (fun _ v _ => n - (intOf v).toNat)
  case atStart => exact ⟨0, rfl, Nat.zero_le _, OwnS.nil_ _ _, Below.refl _ _⟩
  case round =>
    obtain ⟨k, rfl, hk, hown, hbel⟩ := hrel
    obtain ⟨Au, cu, rfl⟩ := hown.slice
    have HOWN := Lib.hid hown
    have HBEL := Lib.hid hbel
    clear hown hbel
    by_cases hlt : k < n
    · have HLT := Lib.hid hlt
      have hc := (HBEL.out.cell (p := ⟨g, k, none⟩) HG.out).trans (HU.out k (by rw [HN.out]; exact hlt))
      have HTK : Hid ((ns.take (k + 1)).map B = (ns.take k).map B ++ [B (ns.getD k 0)]) := Lib.hid (by
        rw [List.take_succ_eq_append_getElem (by rw [HN.out]; exact hlt), List.map_append, List.getD_eq_getElem?_getD, List.getElem?_eq_getElem (by rw [HN.out]; exact hlt)]; rfl)
      have KV := Lib.hid (fun wq => KO.out k wq hlt)
      obtain ⟨x, hx⟩ : ∃ x, ns.getD k 0 = x := ⟨_, rfl⟩
      rw [hx] at hc HTK KV
      clear hx hk
      go_wp2_with (first
        | (go_at_call 7; (with_reducible refine (KV.out _).mono ?_); rintro e w2 ⟨rfl, hb2⟩; have hcb := comb_step HOWN.out HBEL.out hb2 (B x); have HOW2 := Lib.hid hcb.1; have HBA := Lib.hid hcb.2; clear hcb hb2)
        | (at_builtin; refine wpList_append_S rfl (.tmp 11) (.tmp 17) rfl w.heap.size _ k _ rfl HOW2.out _ 1 1 [B x] rfl (sls_one _ _ _) rfl (by have := HM.out; have := HLT.out; omega) HBA.out.size ?_; intro v5 w5 h1' h2' h3'; rw [← HTK.out] at h1'; have HO5 := Lib.hid h1'; have HB5 := Lib.hid (HBA.out.trans (below_grown h2' HBA.out.size (fun g hg => (HOW2.out.blockOf g hg).1))); clear h1' h2' h3'))
      go_roundw
      case rel => exact ⟨k + 1, stp64 HLT.out HM.out, HLT.out, HO5.out, HB5.out⟩
      case measure => exact mes64 HLT.out HM.out
    · obtain rfl : k = n := by omega
      go_wp2_with fail
      go_ret
      obtain ⟨A2, c2, e2, hs2⟩ := HOWN.out.form HBEL.out.size
      cases e2
      rw [List.take_of_length_le (by rw [HN.out]; exact Nat.le_refl _)] at hs2
      exact ⟨⟨_, _, rfl, hs2⟩, HBEL.out⟩

end Go.Proofs.YtapplggboepfaaaGreatDoor

namespace Go.Proofs.YtapplggboepfaaaGreatDoor
open Go.RowKit
set_option maxRecDepth 100000
set_option linter.unusedVariables false
set_option linter.unusedSimpArgs false
set_option maxHeartbeats 4000000

theorem aw_eval : evalS (B 7) [B 3, B 1, B 2] (B 2) = (B 6, 0) := by decide +kernel
theorem aw_pts : ptsE (B 7) [B 1, B 2, B 3] [B 6, B 6, B 3] ⟨#[]⟩ = 0 := by decide +kernel
theorem aw_thru : thruL (num (B 7)) ([B 1, B 2, B 3].map num) ([B 6, B 6, B 3].map num) = [3, 1, 2] := by decide +kernel
theorem aw_is : isE (B 11) = 0 := by decide +kernel
theorem aw_good : goodT [B 4] 0 = true := by decide +kernel
theorem aw_draw : belowS [B 4] ⟨#[]⟩ 0 11 = (0, 4) := by decide +kernel
theorem aw_coins : coinsL [B 4] ⟨#[]⟩ 11 0 1 = [4] := by
  rw [coinsL_snoc]
  show [] ++ [(belowS [B 4] ⟨#[]⟩ 0 11).2] = [4]
  rw [aw_draw]; rfl
theorem aw_shr : shrL 11 3 [5, 4] = [B 9, B 2, B 6] := by decide +kernel
theorem aw_comb : combS (B 11) [1, 3] [B 9, B 6] = (B 5, 0) := by decide +kernel
theorem nums3 (x y z : Int) (a b c : Nat) (T : TypeId) (W : World) (hx : x = a) (hy : y = b) (hz : z = c) (ha : a < 1000) (hb : b < 1000) (hc : c < 1000) :
    Calls Tryz.prog 23 #[.slice (some ⟨W.heap.size, 0, none⟩) 3 3] (W.alloc (.cells #[.int .u64 x, .int .u64 y, .int .u64 z] T)) fun e w' => (∃ A c', e = .returned (.slice A 3 c') ∧ SLs w' w'.heap.size A [B a, B b, B c]) ∧ Below W.heap.size W w' := by
  subst hx hy hz
  refine (law19_nums [a, b, c] W.heap.size 3 3 _ rfl (by decide) (by simp) ?_ ?_).mono ?_
  · intro j hj
    have h : j = 0 ∨ j = 1 ∨ j = 2 := by simp at hj; omega
    rcases h with rfl | rfl | rfl <;> simp [go_sem]
  · intro d hd
    simp at hd; omega
  · rintro e w' ⟨h, hb'⟩
    exact ⟨h, below2 ((Below.refl _ _).alloc (Nat.le_refl _) _) hb'⟩
theorem nums2 (x y : Int) (a b : Nat) (T : TypeId) (W : World) (hx : x = a) (hy : y = b) (ha : a < 1000) (hb : b < 1000) :
    Calls Tryz.prog 23 #[.slice (some ⟨W.heap.size, 0, none⟩) 2 2] (W.alloc (.cells #[.int .u64 x, .int .u64 y] T)) fun e w' => (∃ A c', e = .returned (.slice A 2 c') ∧ SLs w' w'.heap.size A [B a, B b]) ∧ Below W.heap.size W w' := by
  subst hx hy
  refine (law19_nums [a, b] W.heap.size 2 2 _ rfl (by decide) (by simp) ?_ ?_).mono ?_
  · intro j hj
    have h : j = 0 ∨ j = 1 := by simp at hj; omega
    rcases h with rfl | rfl <;> simp [go_sem]
  · intro d hd
    simp at hd; omega
  · rintro e w' ⟨h, hb'⟩
    exact ⟨h, below2 ((Below.refl _ _).alloc (Nat.le_refl _) _) hb'⟩
theorem eval_lit (A : Option Addr) (c : Nat) (w : World) (h : SLs w w.heap.size A [B 3, B 1, B 2]) (hT : Tab w) :
    Calls Tryz.prog 22 #[.string (B 7), .slice A 3 c, .string (B 2)] w fun e w' => e = .returned (.tuple #[.string (B 6), .int .i64 0]) ∧ Below w.heap.size w w' := by
  have := shamir_Eval (B 7) (B 2) [B 3, B 1, B 2] A 3 c w rfl (by decide) h hT
  rw [aw_eval] at this
  exact this
theorem coefs_lit (A A2 : Option Addr) (c c2 : Nat) (w : World) (h : SLs w w.heap.size A [B 1, B 2, B 3]) (h' : SLs w w.heap.size A2 [B 6, B 6, B 3]) (hT : Tab w) :
    Calls Tryz.prog 15 #[.string (B 7), .slice A 3 c, .slice A2 3 c2] w fun e w' => (∃ A' c', e = .returned (.tuple #[.slice A' 3 c', .int .i64 0]) ∧ SLs w' w'.heap.size A' [B 3, B 1, B 2]) ∧ Below w.heap.size w w' := by
  refine (shamir_Coefs (B 7) [B 1, B 2, B 3] [B 6, B 6, B 3] A A2 3 3 c c2 w rfl rfl (by decide) (by decide) h h' hT).mono ?_
  rintro e w' ⟨⟨_, g, rfl, hr⟩ | ⟨h0, _⟩, hb⟩
  · rw [aw_thru] at hr
    exact ⟨⟨_, _, rfl, hr.sls⟩, hb⟩
  · exact absurd aw_pts h0
theorem split_lit (A : Option Addr) (c : Nat) (w : World) (h : SLs w w.heap.size A [B 4]) (hT10 : Tab10 w) (hT : Tab w) :
    Calls Tryz.prog 8 #[.string (B 11), .string (B 5), .int .i64 2, .int .i64 3, .agg #[.slice A 1 c, .string ⟨#[]⟩, .int .i64 0]] w fun e w' => (∃ A' c' At nt ct sdt zt, e = .returned (.tuple #[.slice A' 3 c', .agg #[.slice At nt ct, .string sdt, .int .i64 zt], .int .i64 0]) ∧ SLs w' w'.heap.size A' [B 9, B 2, B 6]) ∧ Below w.heap.size w w' := by
  have := shamir_Split_ok 11 5 2 3 [B 4] A 1 c ⟨#[]⟩ 0 w aw_is (by decide) (by decide) (by decide) (by decide) (by decide) rfl (by decide) h aw_good (by decide) hT10 hT (by
    intro i hi
    obtain rfl : i = 0 := by omega
    show (belowS [B 4] ⟨#[]⟩ 0 11).1 = 0
    rw [aw_draw])
  rw [show 2 - 1 = 1 from rfl, aw_coins, aw_shr] at this
  exact this
theorem comb_lit (A A2 : Option Addr) (c c2 : Nat) (w : World) (h : ISl w w.heap.size A [1, 3]) (h' : SLs w w.heap.size A2 [B 9, B 6]) (hT : Tab w) :
    Calls Tryz.prog 12 #[.string (B 11), .slice A 2 c, .slice A2 2 c2] w fun e w' => e = .returned (.tuple #[.string (B 5), .int .i64 0]) ∧ Below w.heap.size w w' := by
  have := shamir_Combine (B 11) [1, 3] [B 9, B 6] A A2 2 2 c c2 w rfl rfl (by decide) (by decide) h h' hT
  rw [aw_comb] at this
  exact this
theorem nums2b (x y : Int) (a b : Nat) (T : TypeId) (o : Obj) (W : World) (hx : x = a) (hy : y = b) (ha : a < 1000) (hb : b < 1000) :
    Calls Tryz.prog 23 #[.slice (some ⟨W.heap.size + 1, 0, none⟩) 2 2] ((W.alloc o).alloc (.cells #[.int .u64 x, .int .u64 y] T)) fun e w' => (∃ A c', e = .returned (.slice A 2 c') ∧ SLs w' w'.heap.size A [B a, B b]) ∧ Below (W.alloc o).heap.size (W.alloc o) w' := by
  have := nums2 x y a b T (W.alloc o) hx hy ha hb
  rw [World.size_alloc] at this
  rw [World.size_alloc]
  exact this
theorem isl2 (w : World) (x y : Int) (T : TypeId) : ISl (w.alloc (.cells #[.int .i64 x, .int .i64 y] T)) (w.alloc (.cells #[.int .i64 x, .int .i64 y] T)).heap.size (some ⟨w.heap.size, 0, none⟩) [x, y] := by
  intro _
  refine ⟨_, rfl, by rw [World.size_alloc]; exact Nat.lt_succ_self _, fun j hj => ?_⟩
  have h : j = 0 ∨ j = 1 := by simp at hj; omega
  rcases h with rfl | rfl <;> simp [go_sem, Addr.add]
theorem law19_awake (w : World) (hT : Tab w) (hT10 : Tab10 w) :
    Calls Tryz.prog 6 #[] w fun e w' => e = .returned (.bool true) ∧ Below w.heap.size w w' := by
  have HT := Lib.hid hT
  have HT10 := Lib.hid hT10
  have HB := Lib.hid (Below.refl w.heap.size w)
  clear hT hT10
  go_enter Tryz.func6, Tryz.ntmps6
  go_upto_region 2 with (first
    | (go_at_call 7; (with_reducible refine (law19_num 7 7 _ rfl (by decide)).mono ?_); rintro e w1 ⟨rfl, hb⟩; have HB1 := Lib.hid (below2 HB.out hb); clear hb)
    | (go_at_call 23; (with_reducible refine (nums3 3 1 2 3 1 2 _ _ rfl rfl rfl (by decide) (by decide) (by decide)).mono ?_); rintro e w2 ⟨⟨A2, c2, rfl, hs⟩, hb⟩; have HB2 := Lib.hid (below2 HB1.out hb); have HS2 := Lib.hid hs; clear hb hs)
    | (go_at_call 7; (with_reducible refine (law19_num 2 2 _ rfl (by decide)).mono ?_); rintro e w3 ⟨rfl, hb⟩; have HB3 := Lib.hid (below2 HB2.out hb); have HS3 := Lib.hid (HS2.out.to hb); clear hb)
    | (go_at_call 22; (with_reducible refine (eval_lit A2 c2 _ HS3.out (HT.out.below HB3.out)).mono ?_); rintro e w4 ⟨rfl, hb⟩; have HB4 := Lib.hid (below2 HB3.out hb); clear hb))
  clear HB1 HB2 HB3 HS2 HS3 HB
  go_upto_region 3 with (first
    | (go_at_call 7; (with_reducible refine (law19_num 7 7 _ rfl (by decide)).mono ?_); rintro e w1 ⟨rfl, hb⟩; have HB1 := Lib.hid (below2 HB4.out hb); clear hb)
    | (go_at_call 23; (with_reducible refine (nums3 1 2 3 1 2 3 _ _ rfl rfl rfl (by decide) (by decide) (by decide)).mono ?_); rintro e w2 ⟨⟨A3, c3, rfl, hs⟩, hb⟩; have HB2 := Lib.hid (below2 HB1.out hb); have HS2 := Lib.hid hs; clear hb hs)
    | (go_at_call 23; (with_reducible refine (nums3 6 6 3 6 6 3 _ _ rfl rfl rfl (by decide) (by decide) (by decide)).mono ?_); rintro e w3 ⟨⟨A4, c4, rfl, hs⟩, hb⟩; have HB3 := Lib.hid (below2 HB2.out hb); have HS3 := Lib.hid hs; have HS2' := Lib.hid (HS2.out.to hb); clear hb hs)
    | (go_at_call 15; (with_reducible refine (coefs_lit A3 A4 c3 c4 _ HS2'.out HS3.out (HT.out.below HB3.out)).mono ?_); rintro e w5 ⟨⟨A5, c5, rfl, hs⟩, hb⟩; have HB5 := Lib.hid (below2 HB3.out hb); have HS5 := Lib.hid hs; clear hb hs))
  clear HB1 HB2 HB3 HB4 HS2 HS3 HS2'
  go_upto_region 4 with (first
    | (go_at_call 7; (with_reducible refine (law19_num 11 11 _ rfl (by decide)).mono ?_); rintro e w1 ⟨rfl, hb⟩; have HB1 := Lib.hid (below2 HB5.out hb); have HS51 := Lib.hid (HS5.out.to hb); clear hb)
    | (go_at_call 7; (with_reducible refine (law19_num 5 5 _ rfl (by decide)).mono ?_); rintro e w2 ⟨rfl, hb⟩; have HB2 := Lib.hid (below2 HB1.out hb); have HS52 := Lib.hid (HS51.out.to hb); clear hb)
    | (go_at_call 7; (with_reducible refine (law19_num 4 4 _ rfl (by decide)).mono ?_); rintro e w3 ⟨rfl, hb⟩; have HB3 := Lib.hid (below2 HB2.out hb); have HS53 := Lib.hid (HS52.out.to hb); clear hb)
    | (go_at_call 9; (with_reducible refine (values1 (B 4) _ _).mono ?_); rintro e w4 ⟨⟨A6, c6, rfl, hs⟩, hb⟩; have hb' := below2 ((Below.refl w3.heap.size w3).alloc (Nat.le_refl _) (.cells #[.string (B 4)] 25)) hb; have HB4 := Lib.hid (below2 HB3.out hb'); have HS54 := Lib.hid (HS53.out.to hb'); have HS4 := Lib.hid hs; clear hb hs hb')
    | (go_at_call 8; (with_reducible refine (split_lit A6 c6 _ HS4.out (HT10.out.below HB4.out) (HT.out.below HB4.out)).mono ?_); rintro e w6 ⟨⟨A7, c7, At, nt, ct, sdt, zt, rfl, hs⟩, hb⟩; have HB6 := Lib.hid (below2 HB4.out hb); have HS6 := Lib.hid hs; have HS56 := Lib.hid (HS54.out.to hb); clear hb hs))
  obtain ⟨W7, hW7⟩ : ∃ W7, w6.alloc (.cells #[.slice At nt ct, .string sdt, .int .i64 zt] 30) = W7 := ⟨_, rfl⟩
  have hb7 : Below w6.heap.size w6 W7 := by rw [← hW7]; exact (Below.refl _ _).alloc (Nat.le_refl _) _
  have HB7 := Lib.hid (below2 HB6.out hb7)
  have HS57 := Lib.hid (HS56.out.to hb7)
  have HS7 := Lib.hid (HS6.out.to hb7)
  rw [hW7]
  clear hW7 hb7 HB1 HB2 HB3 HB4 HB5 HB6 HS4 HS5 HS51 HS52 HS53 HS54 HS56 HS6 HT10
  go_upto_region 5 with (first
    | (go_at_call 7; (with_reducible refine (law19_num 11 11 _ rfl (by decide)).mono ?_); rintro e w8 ⟨rfl, hb⟩; have hi := isl2 w8 1 3 3; have hb' := hb.alloc hb.size (.cells #[.int .i64 1, .int .i64 3] 3); have HB8 := Lib.hid (below2 HB7.out hb'); have HS58 := Lib.hid (HS57.out.to hb'); have HS78 := Lib.hid (HS7.out.to hb'); have HI8 := Lib.hid hi; clear hb hb' hi)
    | (go_at_call 23; (with_reducible refine (nums2b 9 6 9 6 _ _ _ rfl rfl (by decide) (by decide)).mono ?_); rintro e w9 ⟨⟨A8, c8, rfl, hs⟩, hb⟩; have HB9 := Lib.hid (below2 HB8.out hb); have HS9 := Lib.hid hs; have HS59 := Lib.hid (HS58.out.to hb); have HS79 := Lib.hid (HS78.out.to hb); have HI9 := Lib.hid (HI8.out.to hb); clear hb hs)
    | (go_at_call 12; (with_reducible refine (comb_lit _ A8 _ c8 _ HI9.out HS9.out (HT.out.below HB9.out)).mono ?_); rintro e w10 ⟨rfl, hb⟩; have HB10 := Lib.hid (below2 HB9.out hb); have HS510 := Lib.hid (HS59.out.to hb); have HS710 := Lib.hid (HS79.out.to hb); clear hb))
  clear HB7 HB8 HB9 HS57 HS7 HS58 HS78 HI8 HI9 HS9 HS59 HS79
  go_wp2_with (first
    | (go_at_call 7; (with_reducible refine (law19_num 6 6 _ rfl (by decide)).mono ?_); rintro e w11 ⟨rfl, hb⟩; have HB11 := Lib.hid (below2 HB10.out hb); have HS511 := Lib.hid (HS510.out.to hb); have HS711 := Lib.hid (HS710.out.to hb); clear hb)
    | (go_at_call 23; (with_reducible refine (nums3 3 1 2 3 1 2 _ _ rfl rfl rfl (by decide) (by decide) (by decide)).mono ?_); rintro e w12 ⟨⟨A12, c12, rfl, hs⟩, hb⟩; have HB12 := Lib.hid (below2 HB11.out hb); have HS12 := Lib.hid hs; have HS512 := Lib.hid (HS511.out.to hb); have HS712 := Lib.hid (HS711.out.to hb); clear hb hs)
    | (go_at_call 21; (with_reducible refine (r06_SameNats [B 3, B 1, B 2] A5 A12 3 c5 c12 _ rfl (by decide) HS512.out HS12.out).mono ?_); rintro e w13 ⟨rfl, hb⟩; have HB13 := Lib.hid (below2 HB12.out hb); have HS713 := Lib.hid (HS712.out.to hb); clear hb)
    | (go_at_call 23; (with_reducible refine (nums3 9 2 6 9 2 6 _ _ rfl rfl rfl (by decide) (by decide) (by decide)).mono ?_); rintro e w14 ⟨⟨A14, c14, rfl, hs⟩, hb⟩; have HB14 := Lib.hid (below2 HB13.out hb); have HS14 := Lib.hid hs; have HS714 := Lib.hid (HS713.out.to hb); clear hb hs)
    | (go_at_call 21; (with_reducible refine (r06_SameNats [B 9, B 2, B 6] A7 A14 3 c7 c14 _ rfl (by decide) HS714.out HS14.out).mono ?_); rintro e w15 ⟨rfl, hb⟩; have HB15 := Lib.hid (below2 HB14.out hb); clear hb)
    | (go_at_call 7; (with_reducible refine (law19_num 5 5 _ rfl (by decide)).mono ?_); rintro e w16 ⟨rfl, hb⟩; have HB16 := Lib.hid (below2 HB15.out hb); clear hb))
  go_ret
  exact ⟨rfl, HB16.out⟩

end Go.Proofs.YtapplggboepfaaaGreatDoor

namespace Go.Proofs.YtapplggboepfaaaGreatDoor
open Go.RowKit
set_option maxRecDepth 100000
set_option linter.unusedVariables false
set_option linter.unusedSimpArgs false
set_option maxHeartbeats 4000000

def shortB (s : ByteArray) : Bool := decide (s.size ≤ 12)
def fewL (l : List ByteArray) : Bool := decide (l.length ≤ 10) && l.all shortB
theorem fewL_at {l : List ByteArray} {n k : Nat} (hn : l.length = n) (hk : k < n) (h : shortB (l.getD k ByteArray.empty) = false) : fewL l = false := by
  unfold fewL
  rw [all_not' (k := k) (by omega) h, Bool.and_false]
/-- A row of slices of numbers in memory, however long. -/
def LLw (w : World) (g : Nat) (L : List LSl) : Prop :=
  ∀ k l, L[k]? = some l → w.cell? ⟨g, k, none⟩ = some (.slice l.1 l.2.1 l.2.2.1) ∧ l.2.2.2.length = l.2.1 ∧ SLs w w.heap.size l.1 l.2.2.2
theorem law19_few (L : List LSl) (g N : Nat) (w : World) (hN : L.length = N) (hm : N ≤ 1000) (hL : LLw w g L) :
    Calls Tryz.prog 11 #[.slice (some ⟨g, 0, none⟩) N N] w fun e w' => e = .returned (.bool ((L.map fun l => l.2.2.2).all fewL)) ∧ w = w' := by
  have HL := Lib.hid hL
  have HN := Lib.hid hN
  obtain ⟨R, hR⟩ : ∃ R, (L.map fun l => l.2.2.2).all fewL = R := ⟨_, rfl⟩
  rw [hR]
  have HR := Lib.hid hR
  clear hL hN hR
  go_enter Tryz.func11, Tryz.ntmps11
  go_wp2_with fail
  go_loop [3] (fun v => ∃ k : Nat, v = .int .i64 k ∧ k ≤ N ∧ ∀ j l, j < k → L[j]? = some l → fewL l.2.2.2 = true) (fun v => N - (intOf v).toNat)
  case atStart => exact ⟨0, rfl, Nat.zero_le _, fun j l h => absurd h (Nat.not_lt_zero _)⟩
  case round =>
    obtain ⟨k, rfl, hk, hall⟩ := hrel
    have HA := Lib.hid hall
    clear hall
    by_cases hlt : k < N
    · have k1 : decide (k < N) = true := decide_eq_true hlt
      obtain ⟨l, hl⟩ : ∃ l, L[k]? = some l := ⟨_, List.getElem?_eq_getElem (by rw [HN.out]; exact hlt)⟩
      obtain ⟨hc, hln, hls⟩ := HL.out k l hl
      obtain ⟨A, n, c, vals⟩ := l
      have HLK := Lib.hid hl
      have HLN := Lib.hid hln
      have HLS := Lib.hid hls
      have HLT := Lib.hid hlt
      clear hl hln hls hlt
      replace hc : w.cell? ⟨g, k, none⟩ = some (.slice A n c) := hc
      by_cases hten : 10 < n
      · have t1 : decide (10 < n) = true := decide_eq_true hten
        have t1' : decide ((10 : Int) < (n : Int)) = true := decide_eq_true (by omega)
        have HF : Hid (fewL vals = false) := Lib.hid (by unfold fewL; rw [decide_eq_false (by have := HLN.out; show ¬ vals.length ≤ 10; rw [show vals.length = n from HLN.out]; omega), Bool.false_and])
        go_wp2_with fail
        go_ret
        exact ⟨by rw [← HR.out, all_fails HLK.out HF.out]; rfl, rfl⟩
      · have t1 : decide (10 < n) = false := decide_eq_false hten
        have t1' : decide ((10 : Int) < (n : Int)) = false := decide_eq_false (by omega)
        have hl1 : n ≤ 10 := by omega
        have HT10 := Lib.hid hl1
        clear hten
        go_wp2_with fail
        go_loop [4] (fun v => ∃ j : Nat, v = .int .i64 j ∧ j ≤ n ∧ ∀ i, i < j → shortB (vals.getD i ByteArray.empty) = true) (fun v => n - (intOf v).toNat)
        case atStart => exact ⟨0, rfl, Nat.zero_le _, fun i h => absurd h (Nat.not_lt_zero _)⟩
        case round =>
          obtain ⟨j, rfl, hj, hvl⟩ := hrel
          have HVL := Lib.hid hvl
          clear hvl
          by_cases hlt : j < n
          · obtain ⟨ad, hA, hcx⟩ := HLS.out.at_ (k := j) (by rw [HLN.out]; exact hlt)
            replace hA : A = some ad := hA
            subst hA
            replace hcx : w.cell? (ad.add j) = some (.string (vals.getD j ByteArray.empty)) := hcx
            obtain ⟨x, hx⟩ : ∃ x, vals.getD j ByteArray.empty = x := ⟨_, rfl⟩
            rw [hx] at hcx
            have j1 : decide (j < n) = true := decide_eq_true hlt
            have HX := Lib.hid hx
            have HJ := Lib.hid hlt
            clear hx hlt
            by_cases hs : 12 < x.size
            · have s1 : decide (12 < x.size) = true := decide_eq_true hs
              have s1' : decide ((12 : Int) < (x.size : Int)) = true := decide_eq_true (by omega)
              have HF : Hid (fewL vals = false) := Lib.hid (fewL_at HLN.out HJ.out (by rw [HX.out]; unfold shortB; exact decide_eq_false (by omega)))
              go_wp2_with fail
              go_ret
              exact ⟨by rw [← HR.out, all_fails HLK.out HF.out]; rfl, rfl⟩
            · have s1 : decide (12 < x.size) = false := decide_eq_false hs
              have s1' : decide ((12 : Int) < (x.size : Int)) = false := decide_eq_false (by omega)
              have HSX := Lib.hid (show shortB x = true from decide_eq_true (by omega))
              clear hs
              go_wp2_with fail
              go_round
              case rel => exact ⟨j + 1, by go_num, HJ.out, fun i hi => by
                by_cases e : i = j
                · subst e; rw [HX.out]; exact HSX.out
                · exact HVL.out i (by omega)⟩
              case measure => have := HJ.out; simp [intOf]; omega
          · obtain rfl : j = n := by omega
            have j1 : decide (j < j) = false := decide_eq_false (Nat.lt_irrefl _)
            clear hlt hj
            go_wp2_with fail
            go_round
            case rel => exact ⟨k + 1, by go_num, HLT.out, fun i l' hi hl' => by
              by_cases e : i = k
              · subst e
                rw [HLK.out] at hl'
                injection hl' with hl'
                subst hl'
                show fewL vals = true
                unfold fewL
                rw [decide_eq_true (show vals.length ≤ 10 by rw [show vals.length = j from HLN.out]; exact HT10.out), Bool.true_and]
                exact all_of' (fun i hi => HVL.out i (by rw [← HLN.out]; exact hi))
              · exact HA.out i l' (by omega) hl'⟩
            case measure => have := HLT.out; simp [intOf]; omega
    · obtain rfl : k = N := by omega
      have k1 : decide (k < k) = false := decide_eq_false (Nat.lt_irrefl _)
      have HF : Hid ((L.map fun l => l.2.2.2).all fewL = true) := Lib.hid (all_upto HN.out (fun j l hj hl => HA.out j l hj hl))
      clear hlt hk
      go_wp2_with fail
      go_ret
      exact ⟨by rw [← HR.out, HF.out]; rfl, rfl⟩
/-- The points of a law, in their box. -/
structure PtB (w wx : World) (q x : ByteArray) (AX : Option Addr) (nX cX : Nat) (AY : Option Addr) (nY cY : Nat) (d : Int) : Prop where
  c0 : wx.cell? ⟨w.heap.size, 0, none⟩ = some (.string q)
  c1 : wx.cell? ⟨w.heap.size, 1, none⟩ = some (.slice AX nX cX)
  c2 : wx.cell? ⟨w.heap.size, 2, none⟩ = some (.slice AY nY cY)
  c3 : wx.cell? ⟨w.heap.size, 3, none⟩ = some (.string x)
  c4 : wx.cell? ⟨w.heap.size, 4, none⟩ = some (.int .i64 d)
  bel : Below w.heap.size w wx
section
variable {w wx wy : World} {q x : ByteArray} {AX : Option Addr} {nX cX : Nat} {AY : Option Addr} {nY cY : Nat} {d : Int}
theorem PtB.start (w : World) (q x : ByteArray) (AX : Option Addr) (nX cX : Nat) (AY : Option Addr) (nY cY : Nat) (d : Int) (T : TypeId) :
    PtB w (w.alloc (.cells #[.string q, .slice AX nX cX, .slice AY nY cY, .string x, .int .i64 d] T)) q x AX nX cX AY nY cY d :=
  ⟨by simp [go_sem], by simp [go_sem], by simp [go_sem], by simp [go_sem], by simp [go_sem], (Below.refl _ _).alloc (Nat.le_refl _) _⟩
theorem PtB.next (h : PtB w wx q x AX nX cX AY nY cY d) (hb : Below wx.heap.size wx wy) : PtB w wy q x AX nX cX AY nY cY d :=
  have lt : w.heap.size < wx.heap.size := cell_in (a := ⟨w.heap.size, 0, none⟩) h.c0
  ⟨(hb.cell (p := ⟨w.heap.size, 0, none⟩) lt).trans h.c0, (hb.cell (p := ⟨w.heap.size, 1, none⟩) lt).trans h.c1, (hb.cell (p := ⟨w.heap.size, 2, none⟩) lt).trans h.c2, (hb.cell (p := ⟨w.heap.size, 3, none⟩) lt).trans h.c3, (hb.cell (p := ⟨w.heap.size, 4, none⟩) lt).trans h.c4, below2 h.bel hb⟩
end
theorem LLw.new (W : World) (T : TypeId) (L : List LSl) (h : ∀ l ∈ L, l.2.2.2.length = l.2.1 ∧ SLs W W.heap.size l.1 l.2.2.2) :
    LLw (W.alloc (.cells (L.map fun l => Value.slice l.1 l.2.1 l.2.2.1).toArray T)) W.heap.size L := by
  intro k l hl
  have h1 := h l (List.mem_of_getElem? hl)
  refine ⟨?_, h1.1, h1.2.to ((Below.refl _ _).alloc (Nat.le_refl _) _)⟩
  have hh := heap_alloc_new W (.cells (L.map fun l => Value.slice l.1 l.2.1 l.2.2.1).toArray T)
  simp only [World.cell?, hh]
  simp [hl]
def smallP (q x : ByteArray) (xs ys : List ByteArray) : Bool := fewL [q, x] && (fewL xs && fewL ys)
theorem law19_small (q x : ByteArray) (xs ys : List ByteArray) (AX AY : Option Addr) (nX cX nY cY : Nat) (d : Int) (w : World) (hX : xs.length = nX) (hY : ys.length = nY) (h : SLs w w.heap.size AX xs) (h' : SLs w w.heap.size AY ys) :
    Calls Tryz.prog 14 #[.agg #[.string q, .slice AX nX cX, .slice AY nY cY, .string x, .int .i64 d]] w fun e w' => e = .returned (.bool (smallP q x xs ys)) ∧ Below w.heap.size w w' := by
  obtain ⟨W1, hW1⟩ : ∃ W1, W1 = (w.alloc (.cells #[.string q, .slice AX nX cX, .slice AY nY cY, .string x, .int .i64 d] 46)).alloc (.cells #[.string q, .string x] 25) := ⟨_, rfl⟩
  have hs1 : W1.heap.size = w.heap.size + 1 + 1 := by rw [hW1, World.size_alloc, World.size_alloc]
  have hb1 : Below w.heap.size w W1 := by rw [hW1]; exact ((Below.refl _ _).alloc (Nat.le_refl _) _).alloc (by rw [World.size_alloc]; omega) _
  have hsq : SLs W1 W1.heap.size (some ⟨w.heap.size + 1, 0, none⟩) [q, x] := by
    have := sls_two (w.alloc (.cells #[.string q, .slice AX nX cX, .slice AY nY cY, .string x, .int .i64 d] 46)) 25 q x
    rw [← hW1, World.size_alloc] at this
    exact this
  have hll := LLw.new W1 28 [(some ⟨w.heap.size + 1, 0, none⟩, 2, 2, [q, x]), (AX, nX, cX, xs), (AY, nY, cY, ys)] (by
    intro l hl
    rcases List.mem_cons.1 hl with rfl | hl
    · exact ⟨rfl, hsq⟩
    · rcases List.mem_cons.1 hl with rfl | hl
      · exact ⟨hX, h.to hb1⟩
      · rcases List.mem_cons.1 hl with rfl | hl
        · exact ⟨hY, h'.to hb1⟩
        · cases hl)
  rw [hs1] at hll
  have KF := law19_few _ (w.heap.size + 1 + 1) 3 _ rfl (by decide) hll
  have e : ([(some ⟨w.heap.size + 1, 0, none⟩, 2, 2, [q, x]), (AX, nX, cX, xs), (AY, nY, cY, ys)].map fun (l : LSl) => l.2.2.2).all fewL = smallP q x xs ys := by simp [smallP, Bool.and_assoc]
  rw [e, hW1] at KF
  have KF : Hid (Calls Tryz.prog 11 #[.slice (some ⟨w.heap.size + 1 + 1, 0, none⟩) 3 3] (((w.alloc (.cells #[.string q, .slice AX nX cX, .slice AY nY cY, .string x, .int .i64 d] 46)).alloc (.cells #[.string q, .string x] 25)).alloc (.cells #[.slice (some ⟨w.heap.size + 1, 0, none⟩) 2 2, .slice AX nX cX, .slice AY nY cY] 28)) fun e w' => e = .returned (.bool (smallP q x xs ys)) ∧ (((w.alloc (.cells #[.string q, .slice AX nX cX, .slice AY nY cY, .string x, .int .i64 d] 46)).alloc (.cells #[.string q, .string x] 25)).alloc (.cells #[.slice (some ⟨w.heap.size + 1, 0, none⟩) 2 2, .slice AX nX cX, .slice AY nY cY] 28)) = w') := Lib.hid KF
  have HB := Lib.hid ((hW1 ▸ hb1).alloc (by rw [World.size_alloc, World.size_alloc]; omega) (.cells #[.slice (some ⟨w.heap.size + 1, 0, none⟩) 2 2, .slice AX nX cX, .slice AY nY cY] 28) : Below w.heap.size w (((w.alloc (.cells #[.string q, .slice AX nX cX, .slice AY nY cY, .string x, .int .i64 d] 46)).alloc (.cells #[.string q, .string x] 25)).alloc (.cells #[.slice (some ⟨w.heap.size + 1, 0, none⟩) 2 2, .slice AX nX cX, .slice AY nY cY] 28)))
  clear hW1 hs1 hb1 hsq hll h h' hX hY e
  go_enter Tryz.func14, Tryz.ntmps14
  go_wp2_with (go_at_call 11; (with_reducible refine KF.out.mono ?_); rintro e w1 ⟨rfl, rfl⟩)
  go_ret
  exact ⟨rfl, HB.out⟩

end Go.Proofs.YtapplggboepfaaaGreatDoor

namespace Go.Proofs.YtapplggboepfaaaGreatDoor
open Go.RowKit
set_option maxRecDepth 100000
set_option linter.unusedVariables false
set_option linter.unusedSimpArgs false
set_option maxHeartbeats 4000000

theorem small_lens {q x : ByteArray} {xs ys : List ByteArray} (h : smallP q x xs ys = true) : xs.length ≤ 10 ∧ ys.length ≤ 10 := by
  unfold smallP fewL at h
  simp only [Bool.and_eq_true, decide_eq_true_eq] at h
  exact ⟨h.2.1.1, h.2.2.1⟩
end Go.Proofs.YtapplggboepfaaaGreatDoor
